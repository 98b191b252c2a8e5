/-
  SetJoins is true: the walk.
-/
import Derived.Test.YtejialnbelleeaaDoorRefD
import Derived.Test.YtejialnbelleeaaDoorRefE
import Derived.Test.YtejialnbelleeaaDoorRefF
import Derived.Test.YtejialnbelleeaaDoorSetR
namespace Go.Proofs.YtejialnbelleeaaDoor
open Go Go.RowKit

theorem foldl_take {α β : Type} (f : β → α → β) (b : β) (l : List α) (k : Nat) (h : k < l.length) : (l.take (k + 1)).foldl f b = f ((l.take k).foldl f b) l[k] := by
  rw [List.take_succ_eq_append_getElem h, List.foldl_append]; rfl
/-- A set stored. -/
def st4 (w : World) (g : Nat) (b : Bs) : World := (((w.setCell ⟨g, 0, none⟩ (wordV (word b 0))).setCell ⟨g, 1, none⟩ (wordV (word b 1))).setCell ⟨g, 2, none⟩ (wordV (word b 2))).setCell ⟨g, 3, none⟩ (wordV (word b 3))
theorem st4_self {w : World} {g : Nat} {a : Bs} (b : Bs) {t : TypeId} {f : Nat × Nat} (h : w.heap[g]? = some (.cells (setC a) t f)) : (st4 w g b).heap[g]? = some (.cells (setC b) t f) :=
  blk_set (blk_set (blk_set (blk_set h 0 _) 1 _) 2 _) 3 _
theorem st4_other {w : World} {g k : Nat} (b : Bs) (hk : k ≠ g) {o : Obj} (h : w.heap[k]? = some o) : (st4 w g b).heap[k]? = some o := by
  unfold st4
  rw [Below.heap_setCell _ _ _ _ hk, Below.heap_setCell _ _ _ _ hk, Below.heap_setCell _ _ _ _ hk, Below.heap_setCell _ _ _ _ hk]
  exact h
theorem st4_ext {a w : World} {g : Nat} (b : Bs) (h : Ext G0 a w) (hg : a.heap.size ≤ g) : Ext G0 a (st4 w g b) := (((h.set hg _).set hg _).set hg _).set hg _

set_option maxRecDepth 100000 in
set_option maxHeartbeats 16000000 in
theorem joins_walk (s : Bs) (l0 : List Bs) (A : Option Addr) (n c : Nat) (w : World) (htab : TabOk w) (hl0 : SetsAt w (.slice A n c) l0) :
    Calls Tryd.prog 8 #[setV s, .slice A n c] w fun e w' => e = .returned (.bool true) ∧ Below w.heap.size w w' := by
  obtain ⟨hn, hnc, hnm⟩ := hl0.length
  have hslice : ∃ m, SetsAt w (.slice A m c) (l0.take 6) ∧ min (n : Int) 6 = (m : Int) ∧ m ≤ n := by
    have := hl0.take 6
    by_cases h : n ≤ 6
    · rw [Nat.min_eq_left h] at this
      exact ⟨n, this, by omega, Nat.le_refl _⟩
    · rw [Nat.min_eq_right (by omega)] at this
      exact ⟨6, this, by omega, by omega⟩
  obtain ⟨m, hsl, hmin, hmn⟩ := hslice
  have h6 : (l0.take 6).length ≤ 6 := by rw [List.length_take]; omega
  clear hl0 hn
  generalize l0.take 6 = l at *
  obtain ⟨AL, hAL⟩ : ∃ AL, AL = l.foldl (fun a b => a &&& b) s := ⟨_, rfl⟩
  obtain ⟨OL, hOL⟩ : ∃ OL, OL = l.foldl (fun a b => a ||| b) s := ⟨_, rfl⟩
  have hand := fun v w hv => mand_any s l v w hv
  have hor := fun v w hv => mor_any s l v w hv
  rw [← hAL] at hand
  rw [← hOL] at hor
  have ea := equalIn_set AL AL
  have eo := equalIn_set OL OL
  have en := equalIn_set (~~~s) (~~~s)
  have ef := equalIn_set (foldS s) (foldS s)
  rw [decide_eq_true rfl] at ea eo en ef
  have hcc : cmpS s s = 0 := (cmpS_zero s s).2 rfl
  have HCC : ∀ w, TabOk w → Calls Tryd.prog 19 #[setV s, setV s] w fun e w' => e = .returned (.int .i64 0) ∧ Below w.heap.size w w' := fun w h => by
    have := compare_any s s w h
    rwa [hcc] at this
  replace HCC := Lib.hid HCC
  replace hand := Lib.hid hand
  replace hor := Lib.hid hor
  replace hsl := Lib.hid hsl
  replace hAL := Lib.hid hAL
  replace hOL := Lib.hid hOL
  clear hcc
  · skip
    go_enter Tryd.func8, Tryd.ntmps8
    go_wp2_with fail
    generalize hwz : World.alloc w _ = wz
    have fS : wz.heap[w.heap.size]? = some (.cells (setC s) 24 (0, 0)) := by rw [← hwz]; exact heap_new _ _
    have y0 : Ext G0 w wz := by rw [← hwz]; exact (Ext.refl _ _).alloc _
    clear hwz
    refine (wakes_any _ (htab.ext y0)).mono ?_
    rintro e w1 ⟨rfl, b1⟩
    have x1 := Ext.of_below b1 G0
    have y1 := y0.trans x1
    replace fS := ext_heap x1 fS (fun x => x)
    clear b1 x1 y0
    go_wp2_with fail
    refine (cloneSet_any l _ _ (hsl.out.ext y1) (by omega)).mono ?_
    rintro e w2 ⟨v', rfl, hown, b2⟩
    have x2 := Ext.of_below b2 G0
    have y2 := y1.trans x2
    replace fS := ext_heap x2 fS (fun x => x)
    have hv := SlAt.of_owns (sz := 4) (enc := setL) (fun _ _ => rfl) hown (by omega)
    clear b2 x2 y1 hown
    have hv0 := Lib.hid hv
    obtain ⟨A', c', rfl, ⟨hlc, hlm⟩, hcells⟩ := hv
    replace hcells := Lib.hid hcells
    obtain ⟨q0, q1, q2, q3⟩ := cells4 fS
    go_wp2_with fail
    have hlS := lt_of_block fS
    have a1 := fun o => cells4 (heap_past (w := w2) fS o)
    have a2 := fun o o' => cells4 (heap_past (heap_past (w := w2) fS o) o')
    have a10 := fun o => (a1 o).1
    have a11 := fun o => (a1 o).2.1
    have a12 := fun o => (a1 o).2.2.1
    have a13 := fun o => (a1 o).2.2.2
    have a20 := fun o o' => (a2 o o').1
    have a21 := fun o o' => (a2 o o').2.1
    have a22 := fun o o' => (a2 o o').2.2.1
    have a23 := fun o o' => (a2 o o').2.2.2
    clear a1 a2
    go_region
    all_goals clear a10 a11 a12 a13 a20 a21 a22 a23 q0 q1 q2 q3 hlS
    · generalize hwz : World.drew _ = w4
      have f0 : w4.heap[w2.heap.size]? = some (.cells (setC s) 24 (0, 0)) := by rw [← hwz]; exact heap_past (heap_new _ _) _
      have f1 : w4.heap[w2.heap.size + 1]? = some (.cells (setC s) 24 (0, 0)) := by rw [← hwz]; exact heap_at _ _ _ (by simp)
      have x4 : Ext G0 w2 w4 := by rw [← hwz]; exact ((((Ext.refl _ _).alloc _).alloc _)).drew
      clear hwz
      obtain ⟨e0, he0⟩ : ∃ e0, e0 = w2.heap.size := ⟨_, rfl⟩
      rw [← he0] at f0 f1 ⊢
      obtain ⟨e1, he1⟩ : ∃ e1, e1 = e0 + 1 := ⟨_, rfl⟩
      rw [← he1] at f1 ⊢
      have hlS := lt_of_block fS
      rw [← he0] at hlS
      have hge0 : w2.heap.size ≤ e0 := by omega
      have hge1 : w2.heap.size ≤ e1 := by omega
      have hne : e0 ≠ e1 := by omega
      have hne' : e1 ≠ e0 := by omega
      have hlS1 : w.heap.size < e1 := by omega
      clear he0 he1
      go_wp2_with fail
      go_loopw [21] (fun i wr => ∃ k : Nat, k ≤ l.length ∧ i = .int .i64 (k : Int) ∧ wr.heap[e0]? = some (.cells (setC ((l.take k).foldl (fun a b => a &&& b) s)) 24 (0, 0)) ∧ wr.heap[e1]? = some (.cells (setC ((l.take k).foldl (fun a b => a ||| b) s)) 24 (0, 0)) ∧ Ext G0 w2 wr) (fun i _ => l.length - (intOf i).toNat)
      case atStart => exact ⟨0, Nat.zero_le _, rfl, by first | exact f0 | exact f1, by first | exact f1 | exact f0, x4⟩
      case round =>
        obtain ⟨k, hk, rfl, gA, gO, hx⟩ := hrel
        clear f0 f1 x4
        have gS := ext_heap hx fS (fun x => x)
        by_cases hlt : k < l.length
        · have i1 : (k : Int) < (l.length : Int) := by omega
          rcases hcells.out with h | ⟨b, off, hA, hcell⟩
          · rw [h] at hlt; simp at hlt
          subst hA
          obtain ⟨d0, d1, d2, d3⟩ := sets_cells hcell hx hlt
          have hTA := Lib.hid (foldl_take (fun a b : Bs => a &&& b) s l k hlt)
          have hTO := Lib.hid (foldl_take (fun a b : Bs => a ||| b) s l k hlt)
          clear hcell
          generalize l[k] = x at *
          generalize (l.take k).foldl (fun a b : Bs => a &&& b) s = A0 at *
          generalize (l.take k).foldl (fun a b : Bs => a ||| b) s = O0 at *
          go_wp2_with fail
          clear d0 d1 d2 d3
          have hnA := lt_of_block gA
          have hnO := lt_of_block gO
          have hnS := lt_of_block gS
          generalize hwz : World.alloc wr _ = wz
          have gX : wz.heap[wr.heap.size]? = some (.cells (setC x) 24 (0, 0)) := by rw [← hwz]; exact heap_new _ _
          have hx1 : Ext G0 wr wz := by rw [← hwz]; exact (Ext.refl _ _).alloc _
          clear hwz
          replace gA := ext_heap hx1 gA (fun x => x)
          replace gO := ext_heap hx1 gO (fun x => x)
          replace gS := ext_heap hx1 gS (fun x => x)
          have hxz := hx.trans hx1
          have hszr : w2.heap.size ≤ wr.heap.size := hx.size
          clear hx1
          generalize wr.heap.size = nX at *
          apply region_phi (leaves := (Leaf.val _) :: (Leaf.val _) :: (Leaf.val _) :: (Leaf.val _) :: (Leaf.val _) :: (Leaf.val _) :: ([] : List Leaf)) (k := 6) (b := #[0, 0, 3, 0, 0, 31, 63, 127]) (ms := []) (E := Ext G0) mixed (by kernel_rfl) rfl (by kernel_rfl) rfl
          apply owed_walk rfl
          · intro w1 hw hf
            obtain ⟨q0, q1, q2, q3⟩ := cells4 (ext_heapD hw gA (fun x => x))
            go_wp2
            exact ⟨rfl, rfl, Ext.refl _ _⟩
          · simp
          · go_simp
            try rfl
          apply owed_walk rfl
          · intro w1 hw hf
            obtain ⟨q0, q1, q2, q3⟩ := cells4 (ext_heapD hw gX (fun x => x))
            go_wp2
            exact ⟨rfl, rfl, Ext.refl _ _⟩
          · simp
          · go_simp
            try rfl
          apply owed_walk rfl
          · intro w1 hw hf
            go_wp2_with (go_at_call 31; refine (rand_any _ _ _).mono ?_; rintro e w2 ⟨rfl, hx2⟩)
            exact ⟨rfl, rfl, Ext.of_below hx2 _⟩
          · simp
          · go_simp
            try rfl
          apply owed_walk rfl
          · intro w1 hw hf
            obtain ⟨q0, q1, q2, q3⟩ := cells4 (ext_heapD hw gO (fun x => x))
            go_wp2
            exact ⟨rfl, rfl, Ext.refl _ _⟩
          · simp
          · go_simp
            try rfl
          apply owed_walk rfl
          · intro w1 hw hf
            obtain ⟨q0, q1, q2, q3⟩ := cells4 (ext_heapD hw gX (fun x => x))
            go_wp2
            exact ⟨rfl, rfl, Ext.refl _ _⟩
          · simp
          · go_simp
            try rfl
          apply owed_walk rfl
          · intro w1 hw hf
            go_wp2_with (go_at_call 32; refine (ror_any _ _ _).mono ?_; rintro e w2 ⟨rfl, hx2⟩)
            exact ⟨rfl, rfl, Ext.of_below hx2 _⟩
          · simp
          · go_simp
            try rfl
          apply owed_end
          intro w5 hw _
          unfold Tail
          replace gA := ext_heapD hw gA (fun x => x)
          replace gO := ext_heapD hw gO (fun x => x)
          replace gS := ext_heapD hw gS (fun x => x)
          replace gX := ext_heapD hw gX (fun x => x)
          have hx5 := hxz.trans hw.ofDrew
          have zA := blk_free gA
          have zO := blk_free gO
          have hlA := lt_of_block gA
          have hlO := lt_of_block gO
          obtain ⟨a0, a1, a2, a3⟩ := cells4 gA
          obtain ⟨o0, o1, o2, o3⟩ := cells4 gO
          clear hw hxz hx
          go_wp2_with fail
          clear a0 a1 a2 a3 o0 o1 o2 o3 zA zO hlA hlO
          generalize hwz : World.setCell _ _ _ = w6
          replace hwz : st4 (st4 w5 e0 (A0 &&& x)) e1 (O0 ||| x) = w6 := hwz
          replace gA := st4_other (k := e0) (O0 ||| x) (by omega) (st4_self (A0 &&& x) gA)
          replace gO := st4_self (O0 ||| x) (st4_other (k := e1) (A0 &&& x) (by omega) gO)
          replace gS := st4_other (k := w.heap.size) (g := e1) (O0 ||| x) (by omega) (st4_other (k := w.heap.size) (g := e0) (A0 &&& x) (by omega) gS)
          replace gX := st4_other (k := nX) (g := e1) (O0 ||| x) (by omega) (st4_other (k := nX) (g := e0) (A0 &&& x) (by omega) gX)
          have hx6 := st4_ext (g := e1) (O0 ||| x) (st4_ext (g := e0) (A0 &&& x) hx5 (by omega)) (by omega)
          rw [hwz] at gA gO gS gX hx6
          clear hwz hx5
          have el := equalIn_set (s &&& ~~~x) (s &&& ~~~x)
          rw [decide_eq_true rfl] at el
          generalize hcv : cmpS s x = cv at *
          have HC1 : ∀ w, TabOk w → Calls Tryd.prog 19 #[setV s, setV x] w fun e w' => e = .returned (.int .i64 cv) ∧ Below w.heap.size w w' := fun w h => by
            have := compare_any s x w h
            rwa [hcv] at this
          have HC2 : ∀ w, Calls Tryd.prog 34 #[setV s, setV x] w fun e w' => e = .returned (.int .i64 cv) ∧ Below w.heap.size w w' := fun w => by
            have := rcmp_any s x w
            rwa [hcv] at this
          replace HC1 := Lib.hid HC1
          replace HC2 := Lib.hid HC2
          clear hcv
          apply region_phi (leaves := (Leaf.val _) :: (Leaf.val _) :: (Leaf.val _) :: (Leaf.val _) :: (Leaf.val _) :: (Leaf.val _) :: (Leaf.val _) :: (Leaf.val _) :: (Leaf.val _) :: (Leaf.val _) :: (Leaf.val _) :: (Leaf.val _) :: (Leaf.val _) :: (Leaf.val _) :: (Leaf.val _) :: (Leaf.val _) :: ([] : List Leaf)) (k := 16) (b := #[0, 0, 3, 0, 0, 31, 63, 127, 255, 255, 1023, 255, 255, 8191, 16383, 32767]) (ms := []) (E := Ext G0) mixed (by kernel_rfl) rfl (by kernel_rfl) rfl
          apply owed_walk rfl
          · intro w1 hw hf
            have htb := ((htab.ext y2).ext hx6).ext hw.ofDrew
            obtain ⟨q0, q1, q2, q3⟩ := cells4 (ext_heapD hw gS (fun x => x))
            go_wp2
            exact ⟨rfl, rfl, Ext.refl _ _⟩
          · simp
          · go_simp
            try rfl
          apply owed_walk rfl
          · intro w1 hw hf
            have htb := ((htab.ext y2).ext hx6).ext hw.ofDrew
            obtain ⟨q0, q1, q2, q3⟩ := cells4 (ext_heapD hw gX (fun x => x))
            go_wp2
            exact ⟨rfl, rfl, Ext.refl _ _⟩
          · simp
          · go_simp
            try rfl
          apply owed_walk rfl
          · intro w1 hw hf
            have htb := ((htab.ext y2).ext hx6).ext hw.ofDrew
            go_wp2_with (go_at_call 22; refine (less_any _ _ _).mono ?_; rintro e w2 ⟨rfl, hx2⟩)
            exact ⟨rfl, rfl, Ext.of_below hx2 _⟩
          · simp
          · go_simp
            try rfl
          apply owed_walk rfl
          · intro w1 hw hf
            have htb := ((htab.ext y2).ext hx6).ext hw.ofDrew
            obtain ⟨q0, q1, q2, q3⟩ := cells4 (ext_heapD hw gS (fun x => x))
            go_wp2
            exact ⟨rfl, rfl, Ext.refl _ _⟩
          · simp
          · go_simp
            try rfl
          apply owed_walk rfl
          · intro w1 hw hf
            have htb := ((htab.ext y2).ext hx6).ext hw.ofDrew
            obtain ⟨q0, q1, q2, q3⟩ := cells4 (ext_heapD hw gX (fun x => x))
            go_wp2
            exact ⟨rfl, rfl, Ext.refl _ _⟩
          · simp
          · go_simp
            try rfl
          apply owed_walk rfl
          · intro w1 hw hf
            have htb := ((htab.ext y2).ext hx6).ext hw.ofDrew
            go_wp2_with (go_at_call 33; refine (rless_any _ _ _).mono ?_; rintro e w2 ⟨rfl, hx2⟩)
            exact ⟨rfl, rfl, Ext.of_below hx2 _⟩
          · simp
          · go_simp
            try rfl
          apply owed_walk rfl
          · intro w1 hw hf
            have htb := ((htab.ext y2).ext hx6).ext hw.ofDrew
            go_wp2
            exact ⟨rfl, rfl, Ext.refl _ _⟩
          · simp
          · go_simp
            try rfl
          apply owed_walk rfl
          · intro w1 hw hf
            have htb := ((htab.ext y2).ext hx6).ext hw.ofDrew
            go_wp2
            exact ⟨rfl, rfl, Ext.refl _ _⟩
          · simp
          · go_simp
            try rfl
          apply owed_walk rfl
          · intro w1 hw hf
            have htb := ((htab.ext y2).ext hx6).ext hw.ofDrew
            obtain ⟨q0, q1, q2, q3⟩ := cells4 (ext_heapD hw gS (fun x => x))
            go_wp2
            exact ⟨rfl, rfl, Ext.refl _ _⟩
          · simp
          · go_simp
            try rfl
          apply owed_walk rfl
          · intro w1 hw hf
            have htb := ((htab.ext y2).ext hx6).ext hw.ofDrew
            obtain ⟨q0, q1, q2, q3⟩ := cells4 (ext_heapD hw gX (fun x => x))
            go_wp2
            exact ⟨rfl, rfl, Ext.refl _ _⟩
          · simp
          · go_simp
            try rfl
          apply owed_walk rfl
          · intro w1 hw hf
            have htb := ((htab.ext y2).ext hx6).ext hw.ofDrew
            go_wp2_with (go_at_call 19; refine (HC1.out _ htb).mono ?_; rintro e w2 ⟨rfl, hx2⟩)
            exact ⟨rfl, rfl, Ext.of_below hx2 _⟩
          · simp
          · go_simp
            try rfl
          apply owed_walk rfl
          · intro w1 hw hf
            have htb := ((htab.ext y2).ext hx6).ext hw.ofDrew
            obtain ⟨q0, q1, q2, q3⟩ := cells4 (ext_heapD hw gS (fun x => x))
            go_wp2
            exact ⟨rfl, rfl, Ext.refl _ _⟩
          · simp
          · go_simp
            try rfl
          apply owed_walk rfl
          · intro w1 hw hf
            have htb := ((htab.ext y2).ext hx6).ext hw.ofDrew
            obtain ⟨q0, q1, q2, q3⟩ := cells4 (ext_heapD hw gX (fun x => x))
            go_wp2
            exact ⟨rfl, rfl, Ext.refl _ _⟩
          · simp
          · go_simp
            try rfl
          apply owed_walk rfl
          · intro w1 hw hf
            have htb := ((htab.ext y2).ext hx6).ext hw.ofDrew
            go_wp2_with (go_at_call 34; refine (HC2.out _).mono ?_; rintro e w2 ⟨rfl, hx2⟩)
            exact ⟨rfl, rfl, Ext.of_below hx2 _⟩
          · simp
          · go_simp
            try rfl
          apply owed_walk rfl
          · intro w1 hw hf
            have htb := ((htab.ext y2).ext hx6).ext hw.ofDrew
            go_wp2
            exact ⟨rfl, rfl, Ext.refl _ _⟩
          · simp
          · go_simp
            try rfl
          apply owed_walk rfl
          · intro w1 hw hf
            have htb := ((htab.ext y2).ext hx6).ext hw.ofDrew
            go_wp2
            exact ⟨rfl, rfl, Ext.refl _ _⟩
          · simp
          · go_simp
            try rfl
          apply owed_end
          intro w7 hw _
          refine Tail.nil rfl ?_
          replace gA := ext_heapD hw gA (fun x => x)
          replace gO := ext_heapD hw gO (fun x => x)
          have hx7 := hx6.trans hw.ofDrew
          rw [← hTA.out] at gA
          rw [← hTO.out] at gO
          go_wp2
          go_roundw
          case rel => exact ⟨k + 1, by omega, by go_num, gA, gO, hx7⟩
          case measure => simp [intOf]; omega
        · obtain rfl : k = l.length := by omega
          rw [List.take_length, ← hAL.out] at gA
          rw [List.take_length, ← hOL.out] at gO
          go_wp2_with fail
          apply region_phi (leaves := (Leaf.val _) :: (Leaf.val _) :: (Leaf.val _) :: (Leaf.val _) :: (Leaf.val _) :: (Leaf.val _) :: (Leaf.val _) :: (Leaf.val _) :: (Leaf.val _) :: (Leaf.val _) :: (Leaf.val _) :: (Leaf.val _) :: (Leaf.val _) :: (Leaf.val _) :: (Leaf.val _) :: (Leaf.val _) :: (Leaf.val _) :: (Leaf.val _) :: (Leaf.val _) :: (Leaf.val _) :: (Leaf.val _) :: (Leaf.val _) :: (Leaf.val _) :: (Leaf.val _) :: (Leaf.val _) :: (Leaf.val _) :: (Leaf.val _) :: (Leaf.val _) :: (Leaf.val _) :: (Leaf.val _) :: (Leaf.val _) :: (Leaf.val _) :: (Leaf.val _) :: ([] : List Leaf)) (k := 33) (b := #[0, 0, 3, 0, 15, 31, 63, 63, 255, 63, 1023, 2047, 4095, 8191, 16383, 8191, 65535, 131071, 262143, 524287, 1048575, 2097151, 1048575, 8388607, 16777215, 33554431, 67108863, 134217727, 134217727, 536870911, 1073741823, 2147483647, 4294967295]) (ms := []) (E := Ext G0) mixed (by kernel_rfl) rfl (by kernel_rfl) rfl
          apply owed_walk rfl
          · intro w1 hw hf
            have htb := ((htab.ext y2).ext hx).ext hw.ofDrew
            have hvl := (hv0.out.ext hx).ext hw.ofDrew
            obtain ⟨q0, q1, q2, q3⟩ := cells4 (ext_heapD hw gS (fun x => x))
            go_wp2
            exact ⟨rfl, rfl, Ext.refl _ _⟩
          · simp
          · go_simp
            try rfl
          apply owed_walk rfl
          · intro w1 hw hf
            have htb := ((htab.ext y2).ext hx).ext hw.ofDrew
            have hvl := (hv0.out.ext hx).ext hw.ofDrew
            go_wp2
            exact ⟨rfl, rfl, Ext.refl _ _⟩
          · simp
          · go_simp
            try rfl
          apply owed_walk rfl
          · intro w1 hw hf
            have htb := ((htab.ext y2).ext hx).ext hw.ofDrew
            have hvl := (hv0.out.ext hx).ext hw.ofDrew
            go_wp2_with (go_at_call 17; refine (hand.out _ _ hvl).mono ?_; rintro e w2 ⟨rfl, hx2⟩)
            exact ⟨rfl, rfl, Ext.of_below hx2 _⟩
          · simp
          · go_simp
            try rfl
          apply owed_walk rfl
          · intro w1 hw hf
            have htb := ((htab.ext y2).ext hx).ext hw.ofDrew
            have hvl := (hv0.out.ext hx).ext hw.ofDrew
            obtain ⟨q0, q1, q2, q3⟩ := cells4 (ext_heapD hw gA (fun x => x))
            go_wp2
            exact ⟨rfl, rfl, Ext.refl _ _⟩
          · simp
          · go_simp
            try rfl
          apply owed_walk rfl
          · intro w1 hw hf
            have htb := ((htab.ext y2).ext hx).ext hw.ofDrew
            have hvl := (hv0.out.ext hx).ext hw.ofDrew
            go_wp2
            exact ⟨rfl, rfl, Ext.refl _ _⟩
          · simp
          · go_simp
            try rfl
          apply owed_walk rfl
          · intro w1 hw hf
            have htb := ((htab.ext y2).ext hx).ext hw.ofDrew
            have hvl := (hv0.out.ext hx).ext hw.ofDrew
            go_wp2
            exact ⟨rfl, rfl, Ext.refl _ _⟩
          · simp
          · go_simp
            try rfl
          apply owed_walk rfl
          · intro w1 hw hf
            have htb := ((htab.ext y2).ext hx).ext hw.ofDrew
            have hvl := (hv0.out.ext hx).ext hw.ofDrew
            obtain ⟨q0, q1, q2, q3⟩ := cells4 (ext_heapD hw gS (fun x => x))
            go_wp2
            exact ⟨rfl, rfl, Ext.refl _ _⟩
          · simp
          · go_simp
            try rfl
          apply owed_walk rfl
          · intro w1 hw hf
            have htb := ((htab.ext y2).ext hx).ext hw.ofDrew
            have hvl := (hv0.out.ext hx).ext hw.ofDrew
            go_wp2
            exact ⟨rfl, rfl, Ext.refl _ _⟩
          · simp
          · go_simp
            try rfl
          apply owed_walk rfl
          · intro w1 hw hf
            have htb := ((htab.ext y2).ext hx).ext hw.ofDrew
            have hvl := (hv0.out.ext hx).ext hw.ofDrew
            go_wp2_with (go_at_call 21; refine (hor.out _ _ hvl).mono ?_; rintro e w2 ⟨rfl, hx2⟩)
            exact ⟨rfl, rfl, Ext.of_below hx2 _⟩
          · simp
          · go_simp
            try rfl
          apply owed_walk rfl
          · intro w1 hw hf
            have htb := ((htab.ext y2).ext hx).ext hw.ofDrew
            have hvl := (hv0.out.ext hx).ext hw.ofDrew
            obtain ⟨q0, q1, q2, q3⟩ := cells4 (ext_heapD hw gO (fun x => x))
            go_wp2
            exact ⟨rfl, rfl, Ext.refl _ _⟩
          · simp
          · go_simp
            try rfl
          apply owed_walk rfl
          · intro w1 hw hf
            have htb := ((htab.ext y2).ext hx).ext hw.ofDrew
            have hvl := (hv0.out.ext hx).ext hw.ofDrew
            go_wp2
            exact ⟨rfl, rfl, Ext.refl _ _⟩
          · simp
          · go_simp
            try rfl
          apply owed_walk rfl
          · intro w1 hw hf
            have htb := ((htab.ext y2).ext hx).ext hw.ofDrew
            have hvl := (hv0.out.ext hx).ext hw.ofDrew
            go_wp2
            exact ⟨rfl, rfl, Ext.refl _ _⟩
          · simp
          · go_simp
            try rfl
          apply owed_walk rfl
          · intro w1 hw hf
            have htb := ((htab.ext y2).ext hx).ext hw.ofDrew
            have hvl := (hv0.out.ext hx).ext hw.ofDrew
            go_wp2
            exact ⟨rfl, rfl, Ext.refl _ _⟩
          · simp
          · go_simp
            try rfl
          apply owed_walk rfl
          · intro w1 hw hf
            have htb := ((htab.ext y2).ext hx).ext hw.ofDrew
            have hvl := (hv0.out.ext hx).ext hw.ofDrew
            obtain ⟨q0, q1, q2, q3⟩ := cells4 (ext_heapD hw gS (fun x => x))
            go_wp2
            exact ⟨rfl, rfl, Ext.refl _ _⟩
          · simp
          · go_simp
            try rfl
          apply owed_walk rfl
          · intro w1 hw hf
            have htb := ((htab.ext y2).ext hx).ext hw.ofDrew
            have hvl := (hv0.out.ext hx).ext hw.ofDrew
            go_wp2_with (go_at_call 20; refine (not_any _ _).mono ?_; rintro e w2 ⟨rfl, hx2⟩)
            exact ⟨rfl, rfl, Ext.of_below hx2 _⟩
          · simp
          · go_simp
            try rfl
          apply owed_walk rfl
          · intro w1 hw hf
            have htb := ((htab.ext y2).ext hx).ext hw.ofDrew
            have hvl := (hv0.out.ext hx).ext hw.ofDrew
            obtain ⟨q0, q1, q2, q3⟩ := cells4 (ext_heapD hw gS (fun x => x))
            go_wp2
            exact ⟨rfl, rfl, Ext.refl _ _⟩
          · simp
          · go_simp
            try rfl
          apply owed_walk rfl
          · intro w1 hw hf
            have htb := ((htab.ext y2).ext hx).ext hw.ofDrew
            have hvl := (hv0.out.ext hx).ext hw.ofDrew
            go_wp2_with (go_at_call 35; refine (rnot_any _ _).mono ?_; rintro e w2 ⟨rfl, hx2⟩)
            exact ⟨rfl, rfl, Ext.of_below hx2 _⟩
          · simp
          · go_simp
            try rfl
          apply owed_walk rfl
          · intro w1 hw hf
            have htb := ((htab.ext y2).ext hx).ext hw.ofDrew
            have hvl := (hv0.out.ext hx).ext hw.ofDrew
            go_wp2
            exact ⟨rfl, rfl, Ext.refl _ _⟩
          · simp
          · go_simp
            try rfl
          apply owed_walk rfl
          · intro w1 hw hf
            have htb := ((htab.ext y2).ext hx).ext hw.ofDrew
            have hvl := (hv0.out.ext hx).ext hw.ofDrew
            go_wp2
            exact ⟨rfl, rfl, Ext.refl _ _⟩
          · simp
          · go_simp
            try rfl
          apply owed_walk rfl
          · intro w1 hw hf
            have htb := ((htab.ext y2).ext hx).ext hw.ofDrew
            have hvl := (hv0.out.ext hx).ext hw.ofDrew
            go_wp2
            exact ⟨rfl, rfl, Ext.refl _ _⟩
          · simp
          · go_simp
            try rfl
          apply owed_walk rfl
          · intro w1 hw hf
            have htb := ((htab.ext y2).ext hx).ext hw.ofDrew
            have hvl := (hv0.out.ext hx).ext hw.ofDrew
            obtain ⟨q0, q1, q2, q3⟩ := cells4 (ext_heapD hw gS (fun x => x))
            go_wp2
            exact ⟨rfl, rfl, Ext.refl _ _⟩
          · simp
          · go_simp
            try rfl
          apply owed_walk rfl
          · intro w1 hw hf
            have htb := ((htab.ext y2).ext hx).ext hw.ofDrew
            have hvl := (hv0.out.ext hx).ext hw.ofDrew
            go_wp2_with (go_at_call 16; refine (fold_any _ _ htb).mono ?_; rintro e w2 ⟨rfl, hx2⟩)
            exact ⟨rfl, rfl, Ext.of_below hx2 _⟩
          · simp
          · go_simp
            try rfl
          apply owed_walk rfl
          · intro w1 hw hf
            have htb := ((htab.ext y2).ext hx).ext hw.ofDrew
            have hvl := (hv0.out.ext hx).ext hw.ofDrew
            obtain ⟨q0, q1, q2, q3⟩ := cells4 (ext_heapD hw gS (fun x => x))
            go_wp2
            exact ⟨rfl, rfl, Ext.refl _ _⟩
          · simp
          · go_simp
            try rfl
          apply owed_walk rfl
          · intro w1 hw hf
            have htb := ((htab.ext y2).ext hx).ext hw.ofDrew
            have hvl := (hv0.out.ext hx).ext hw.ofDrew
            go_wp2_with (go_at_call 36; refine (rfold_any _ _).mono ?_; rintro e w2 ⟨rfl, hx2⟩)
            exact ⟨rfl, rfl, Ext.of_below hx2 _⟩
          · simp
          · go_simp
            try rfl
          apply owed_walk rfl
          · intro w1 hw hf
            have htb := ((htab.ext y2).ext hx).ext hw.ofDrew
            have hvl := (hv0.out.ext hx).ext hw.ofDrew
            go_wp2
            exact ⟨rfl, rfl, Ext.refl _ _⟩
          · simp
          · go_simp
            try rfl
          apply owed_walk rfl
          · intro w1 hw hf
            have htb := ((htab.ext y2).ext hx).ext hw.ofDrew
            have hvl := (hv0.out.ext hx).ext hw.ofDrew
            go_wp2
            exact ⟨rfl, rfl, Ext.refl _ _⟩
          · simp
          · go_simp
            try rfl
          apply owed_walk rfl
          · intro w1 hw hf
            have htb := ((htab.ext y2).ext hx).ext hw.ofDrew
            have hvl := (hv0.out.ext hx).ext hw.ofDrew
            go_wp2
            exact ⟨rfl, rfl, Ext.refl _ _⟩
          · simp
          · go_simp
            try rfl
          apply owed_walk rfl
          · intro w1 hw hf
            have htb := ((htab.ext y2).ext hx).ext hw.ofDrew
            have hvl := (hv0.out.ext hx).ext hw.ofDrew
            obtain ⟨q0, q1, q2, q3⟩ := cells4 (ext_heapD hw gS (fun x => x))
            go_wp2
            exact ⟨rfl, rfl, Ext.refl _ _⟩
          · simp
          · go_simp
            try rfl
          apply owed_walk rfl
          · intro w1 hw hf
            have htb := ((htab.ext y2).ext hx).ext hw.ofDrew
            have hvl := (hv0.out.ext hx).ext hw.ofDrew
            obtain ⟨q0, q1, q2, q3⟩ := cells4 (ext_heapD hw gS (fun x => x))
            go_wp2
            exact ⟨rfl, rfl, Ext.refl _ _⟩
          · simp
          · go_simp
            try rfl
          apply owed_walk rfl
          · intro w1 hw hf
            have htb := ((htab.ext y2).ext hx).ext hw.ofDrew
            have hvl := (hv0.out.ext hx).ext hw.ofDrew
            go_wp2_with (go_at_call 19; refine (HCC.out _ htb).mono ?_; rintro e w2 ⟨rfl, hx2⟩)
            exact ⟨rfl, rfl, Ext.of_below hx2 _⟩
          · simp
          · go_simp
            try rfl
          apply owed_walk rfl
          · intro w1 hw hf
            have htb := ((htab.ext y2).ext hx).ext hw.ofDrew
            have hvl := (hv0.out.ext hx).ext hw.ofDrew
            go_wp2
            exact ⟨rfl, rfl, Ext.refl _ _⟩
          · simp
          · go_simp
            try rfl
          apply owed_walk rfl
          · intro w1 hw hf
            have htb := ((htab.ext y2).ext hx).ext hw.ofDrew
            have hvl := (hv0.out.ext hx).ext hw.ofDrew
            go_wp2
            exact ⟨rfl, rfl, Ext.refl _ _⟩
          · simp
          · go_simp
            try rfl
          apply owed_walk rfl
          · intro w1 hw hf
            have htb := ((htab.ext y2).ext hx).ext hw.ofDrew
            have hvl := (hv0.out.ext hx).ext hw.ofDrew
            go_wp2
            exact ⟨rfl, rfl, Ext.refl _ _⟩
          · simp
          · go_simp
            try rfl
          apply owed_end
          intro w7 hw _
          refine Tail.nil rfl ?_
          go_wp2
          go_ret
          exact ⟨rfl, ((y2.trans hx).trans hw.ofDrew).below⟩
    · generalize hwz : World.drew _ = w4
      have f0 : w4.heap[w2.heap.size]? = some (.cells (setC s) 24 (0, 0)) := by rw [← hwz]; exact heap_past (heap_new _ _) _
      have f1 : w4.heap[w2.heap.size + 1]? = some (.cells (setC s) 24 (0, 0)) := by rw [← hwz]; exact heap_at _ _ _ (by simp)
      have x4 : Ext G0 w2 w4 := by rw [← hwz]; exact ((((Ext.refl _ _).alloc _).alloc _)).drew
      clear hwz
      obtain ⟨e0, he0⟩ : ∃ e0, e0 = w2.heap.size := ⟨_, rfl⟩
      rw [← he0] at f0 f1 ⊢
      obtain ⟨e1, he1⟩ : ∃ e1, e1 = e0 + 1 := ⟨_, rfl⟩
      rw [← he1] at f1 ⊢
      have hlS := lt_of_block fS
      rw [← he0] at hlS
      have hge0 : w2.heap.size ≤ e0 := by omega
      have hge1 : w2.heap.size ≤ e1 := by omega
      have hne : e0 ≠ e1 := by omega
      have hne' : e1 ≠ e0 := by omega
      have hlS1 : w.heap.size < e1 := by omega
      clear he0 he1
      go_wp2_with fail
      go_loopw [21] (fun i wr => ∃ k : Nat, k ≤ l.length ∧ i = .int .i64 (k : Int) ∧ wr.heap[e1]? = some (.cells (setC ((l.take k).foldl (fun a b => a &&& b) s)) 24 (0, 0)) ∧ wr.heap[e0]? = some (.cells (setC ((l.take k).foldl (fun a b => a ||| b) s)) 24 (0, 0)) ∧ Ext G0 w2 wr) (fun i _ => l.length - (intOf i).toNat)
      case atStart => exact ⟨0, Nat.zero_le _, rfl, by first | exact f0 | exact f1, by first | exact f1 | exact f0, x4⟩
      case round =>
        obtain ⟨k, hk, rfl, gA, gO, hx⟩ := hrel
        clear f0 f1 x4
        have gS := ext_heap hx fS (fun x => x)
        by_cases hlt : k < l.length
        · have i1 : (k : Int) < (l.length : Int) := by omega
          rcases hcells.out with h | ⟨b, off, hA, hcell⟩
          · rw [h] at hlt; simp at hlt
          subst hA
          obtain ⟨d0, d1, d2, d3⟩ := sets_cells hcell hx hlt
          have hTA := Lib.hid (foldl_take (fun a b : Bs => a &&& b) s l k hlt)
          have hTO := Lib.hid (foldl_take (fun a b : Bs => a ||| b) s l k hlt)
          clear hcell
          generalize l[k] = x at *
          generalize (l.take k).foldl (fun a b : Bs => a &&& b) s = A0 at *
          generalize (l.take k).foldl (fun a b : Bs => a ||| b) s = O0 at *
          go_wp2_with fail
          clear d0 d1 d2 d3
          have hnA := lt_of_block gA
          have hnO := lt_of_block gO
          have hnS := lt_of_block gS
          generalize hwz : World.alloc wr _ = wz
          have gX : wz.heap[wr.heap.size]? = some (.cells (setC x) 24 (0, 0)) := by rw [← hwz]; exact heap_new _ _
          have hx1 : Ext G0 wr wz := by rw [← hwz]; exact (Ext.refl _ _).alloc _
          clear hwz
          replace gA := ext_heap hx1 gA (fun x => x)
          replace gO := ext_heap hx1 gO (fun x => x)
          replace gS := ext_heap hx1 gS (fun x => x)
          have hxz := hx.trans hx1
          have hszr : w2.heap.size ≤ wr.heap.size := hx.size
          clear hx1
          generalize wr.heap.size = nX at *
          apply region_phi (leaves := (Leaf.val _) :: (Leaf.val _) :: (Leaf.val _) :: (Leaf.val _) :: (Leaf.val _) :: (Leaf.val _) :: ([] : List Leaf)) (k := 6) (b := #[0, 0, 3, 0, 0, 31, 63, 127]) (ms := []) (E := Ext G0) mixed (by kernel_rfl) rfl (by kernel_rfl) rfl
          apply owed_walk rfl
          · intro w1 hw hf
            obtain ⟨q0, q1, q2, q3⟩ := cells4 (ext_heapD hw gA (fun x => x))
            go_wp2
            exact ⟨rfl, rfl, Ext.refl _ _⟩
          · simp
          · go_simp
            try rfl
          apply owed_walk rfl
          · intro w1 hw hf
            obtain ⟨q0, q1, q2, q3⟩ := cells4 (ext_heapD hw gX (fun x => x))
            go_wp2
            exact ⟨rfl, rfl, Ext.refl _ _⟩
          · simp
          · go_simp
            try rfl
          apply owed_walk rfl
          · intro w1 hw hf
            go_wp2_with (go_at_call 31; refine (rand_any _ _ _).mono ?_; rintro e w2 ⟨rfl, hx2⟩)
            exact ⟨rfl, rfl, Ext.of_below hx2 _⟩
          · simp
          · go_simp
            try rfl
          apply owed_walk rfl
          · intro w1 hw hf
            obtain ⟨q0, q1, q2, q3⟩ := cells4 (ext_heapD hw gO (fun x => x))
            go_wp2
            exact ⟨rfl, rfl, Ext.refl _ _⟩
          · simp
          · go_simp
            try rfl
          apply owed_walk rfl
          · intro w1 hw hf
            obtain ⟨q0, q1, q2, q3⟩ := cells4 (ext_heapD hw gX (fun x => x))
            go_wp2
            exact ⟨rfl, rfl, Ext.refl _ _⟩
          · simp
          · go_simp
            try rfl
          apply owed_walk rfl
          · intro w1 hw hf
            go_wp2_with (go_at_call 32; refine (ror_any _ _ _).mono ?_; rintro e w2 ⟨rfl, hx2⟩)
            exact ⟨rfl, rfl, Ext.of_below hx2 _⟩
          · simp
          · go_simp
            try rfl
          apply owed_end
          intro w5 hw _
          unfold Tail
          replace gA := ext_heapD hw gA (fun x => x)
          replace gO := ext_heapD hw gO (fun x => x)
          replace gS := ext_heapD hw gS (fun x => x)
          replace gX := ext_heapD hw gX (fun x => x)
          have hx5 := hxz.trans hw.ofDrew
          have zA := blk_free gA
          have zO := blk_free gO
          have hlA := lt_of_block gA
          have hlO := lt_of_block gO
          obtain ⟨a0, a1, a2, a3⟩ := cells4 gA
          obtain ⟨o0, o1, o2, o3⟩ := cells4 gO
          clear hw hxz hx
          go_wp2_with fail
          clear a0 a1 a2 a3 o0 o1 o2 o3 zA zO hlA hlO
          generalize hwz : World.setCell _ _ _ = w6
          replace hwz : st4 (st4 w5 e1 (A0 &&& x)) e0 (O0 ||| x) = w6 := hwz
          replace gA := st4_other (k := e1) (O0 ||| x) (by omega) (st4_self (A0 &&& x) gA)
          replace gO := st4_self (O0 ||| x) (st4_other (k := e0) (A0 &&& x) (by omega) gO)
          replace gS := st4_other (k := w.heap.size) (g := e0) (O0 ||| x) (by omega) (st4_other (k := w.heap.size) (g := e1) (A0 &&& x) (by omega) gS)
          replace gX := st4_other (k := nX) (g := e0) (O0 ||| x) (by omega) (st4_other (k := nX) (g := e1) (A0 &&& x) (by omega) gX)
          have hx6 := st4_ext (g := e0) (O0 ||| x) (st4_ext (g := e1) (A0 &&& x) hx5 (by omega)) (by omega)
          rw [hwz] at gA gO gS gX hx6
          clear hwz hx5
          have el := equalIn_set (s &&& ~~~x) (s &&& ~~~x)
          rw [decide_eq_true rfl] at el
          generalize hcv : cmpS s x = cv at *
          have HC1 : ∀ w, TabOk w → Calls Tryd.prog 19 #[setV s, setV x] w fun e w' => e = .returned (.int .i64 cv) ∧ Below w.heap.size w w' := fun w h => by
            have := compare_any s x w h
            rwa [hcv] at this
          have HC2 : ∀ w, Calls Tryd.prog 34 #[setV s, setV x] w fun e w' => e = .returned (.int .i64 cv) ∧ Below w.heap.size w w' := fun w => by
            have := rcmp_any s x w
            rwa [hcv] at this
          replace HC1 := Lib.hid HC1
          replace HC2 := Lib.hid HC2
          clear hcv
          apply region_phi (leaves := (Leaf.val _) :: (Leaf.val _) :: (Leaf.val _) :: (Leaf.val _) :: (Leaf.val _) :: (Leaf.val _) :: (Leaf.val _) :: (Leaf.val _) :: (Leaf.val _) :: (Leaf.val _) :: (Leaf.val _) :: (Leaf.val _) :: (Leaf.val _) :: (Leaf.val _) :: (Leaf.val _) :: (Leaf.val _) :: ([] : List Leaf)) (k := 16) (b := #[0, 0, 3, 0, 0, 31, 63, 127, 255, 255, 1023, 255, 255, 8191, 16383, 32767]) (ms := []) (E := Ext G0) mixed (by kernel_rfl) rfl (by kernel_rfl) rfl
          apply owed_walk rfl
          · intro w1 hw hf
            have htb := ((htab.ext y2).ext hx6).ext hw.ofDrew
            obtain ⟨q0, q1, q2, q3⟩ := cells4 (ext_heapD hw gS (fun x => x))
            go_wp2
            exact ⟨rfl, rfl, Ext.refl _ _⟩
          · simp
          · go_simp
            try rfl
          apply owed_walk rfl
          · intro w1 hw hf
            have htb := ((htab.ext y2).ext hx6).ext hw.ofDrew
            obtain ⟨q0, q1, q2, q3⟩ := cells4 (ext_heapD hw gX (fun x => x))
            go_wp2
            exact ⟨rfl, rfl, Ext.refl _ _⟩
          · simp
          · go_simp
            try rfl
          apply owed_walk rfl
          · intro w1 hw hf
            have htb := ((htab.ext y2).ext hx6).ext hw.ofDrew
            go_wp2_with (go_at_call 22; refine (less_any _ _ _).mono ?_; rintro e w2 ⟨rfl, hx2⟩)
            exact ⟨rfl, rfl, Ext.of_below hx2 _⟩
          · simp
          · go_simp
            try rfl
          apply owed_walk rfl
          · intro w1 hw hf
            have htb := ((htab.ext y2).ext hx6).ext hw.ofDrew
            obtain ⟨q0, q1, q2, q3⟩ := cells4 (ext_heapD hw gS (fun x => x))
            go_wp2
            exact ⟨rfl, rfl, Ext.refl _ _⟩
          · simp
          · go_simp
            try rfl
          apply owed_walk rfl
          · intro w1 hw hf
            have htb := ((htab.ext y2).ext hx6).ext hw.ofDrew
            obtain ⟨q0, q1, q2, q3⟩ := cells4 (ext_heapD hw gX (fun x => x))
            go_wp2
            exact ⟨rfl, rfl, Ext.refl _ _⟩
          · simp
          · go_simp
            try rfl
          apply owed_walk rfl
          · intro w1 hw hf
            have htb := ((htab.ext y2).ext hx6).ext hw.ofDrew
            go_wp2_with (go_at_call 33; refine (rless_any _ _ _).mono ?_; rintro e w2 ⟨rfl, hx2⟩)
            exact ⟨rfl, rfl, Ext.of_below hx2 _⟩
          · simp
          · go_simp
            try rfl
          apply owed_walk rfl
          · intro w1 hw hf
            have htb := ((htab.ext y2).ext hx6).ext hw.ofDrew
            go_wp2
            exact ⟨rfl, rfl, Ext.refl _ _⟩
          · simp
          · go_simp
            try rfl
          apply owed_walk rfl
          · intro w1 hw hf
            have htb := ((htab.ext y2).ext hx6).ext hw.ofDrew
            go_wp2
            exact ⟨rfl, rfl, Ext.refl _ _⟩
          · simp
          · go_simp
            try rfl
          apply owed_walk rfl
          · intro w1 hw hf
            have htb := ((htab.ext y2).ext hx6).ext hw.ofDrew
            obtain ⟨q0, q1, q2, q3⟩ := cells4 (ext_heapD hw gS (fun x => x))
            go_wp2
            exact ⟨rfl, rfl, Ext.refl _ _⟩
          · simp
          · go_simp
            try rfl
          apply owed_walk rfl
          · intro w1 hw hf
            have htb := ((htab.ext y2).ext hx6).ext hw.ofDrew
            obtain ⟨q0, q1, q2, q3⟩ := cells4 (ext_heapD hw gX (fun x => x))
            go_wp2
            exact ⟨rfl, rfl, Ext.refl _ _⟩
          · simp
          · go_simp
            try rfl
          apply owed_walk rfl
          · intro w1 hw hf
            have htb := ((htab.ext y2).ext hx6).ext hw.ofDrew
            go_wp2_with (go_at_call 19; refine (HC1.out _ htb).mono ?_; rintro e w2 ⟨rfl, hx2⟩)
            exact ⟨rfl, rfl, Ext.of_below hx2 _⟩
          · simp
          · go_simp
            try rfl
          apply owed_walk rfl
          · intro w1 hw hf
            have htb := ((htab.ext y2).ext hx6).ext hw.ofDrew
            obtain ⟨q0, q1, q2, q3⟩ := cells4 (ext_heapD hw gS (fun x => x))
            go_wp2
            exact ⟨rfl, rfl, Ext.refl _ _⟩
          · simp
          · go_simp
            try rfl
          apply owed_walk rfl
          · intro w1 hw hf
            have htb := ((htab.ext y2).ext hx6).ext hw.ofDrew
            obtain ⟨q0, q1, q2, q3⟩ := cells4 (ext_heapD hw gX (fun x => x))
            go_wp2
            exact ⟨rfl, rfl, Ext.refl _ _⟩
          · simp
          · go_simp
            try rfl
          apply owed_walk rfl
          · intro w1 hw hf
            have htb := ((htab.ext y2).ext hx6).ext hw.ofDrew
            go_wp2_with (go_at_call 34; refine (HC2.out _).mono ?_; rintro e w2 ⟨rfl, hx2⟩)
            exact ⟨rfl, rfl, Ext.of_below hx2 _⟩
          · simp
          · go_simp
            try rfl
          apply owed_walk rfl
          · intro w1 hw hf
            have htb := ((htab.ext y2).ext hx6).ext hw.ofDrew
            go_wp2
            exact ⟨rfl, rfl, Ext.refl _ _⟩
          · simp
          · go_simp
            try rfl
          apply owed_walk rfl
          · intro w1 hw hf
            have htb := ((htab.ext y2).ext hx6).ext hw.ofDrew
            go_wp2
            exact ⟨rfl, rfl, Ext.refl _ _⟩
          · simp
          · go_simp
            try rfl
          apply owed_end
          intro w7 hw _
          refine Tail.nil rfl ?_
          replace gA := ext_heapD hw gA (fun x => x)
          replace gO := ext_heapD hw gO (fun x => x)
          have hx7 := hx6.trans hw.ofDrew
          rw [← hTA.out] at gA
          rw [← hTO.out] at gO
          go_wp2
          go_roundw
          case rel => exact ⟨k + 1, by omega, by go_num, gA, gO, hx7⟩
          case measure => simp [intOf]; omega
        · obtain rfl : k = l.length := by omega
          rw [List.take_length, ← hAL.out] at gA
          rw [List.take_length, ← hOL.out] at gO
          go_wp2_with fail
          apply region_phi (leaves := (Leaf.val _) :: (Leaf.val _) :: (Leaf.val _) :: (Leaf.val _) :: (Leaf.val _) :: (Leaf.val _) :: (Leaf.val _) :: (Leaf.val _) :: (Leaf.val _) :: (Leaf.val _) :: (Leaf.val _) :: (Leaf.val _) :: (Leaf.val _) :: (Leaf.val _) :: (Leaf.val _) :: (Leaf.val _) :: (Leaf.val _) :: (Leaf.val _) :: (Leaf.val _) :: (Leaf.val _) :: (Leaf.val _) :: (Leaf.val _) :: (Leaf.val _) :: (Leaf.val _) :: (Leaf.val _) :: (Leaf.val _) :: (Leaf.val _) :: (Leaf.val _) :: (Leaf.val _) :: (Leaf.val _) :: (Leaf.val _) :: (Leaf.val _) :: (Leaf.val _) :: ([] : List Leaf)) (k := 33) (b := #[0, 0, 3, 0, 15, 31, 63, 63, 255, 63, 1023, 2047, 4095, 8191, 16383, 8191, 65535, 131071, 262143, 524287, 1048575, 2097151, 1048575, 8388607, 16777215, 33554431, 67108863, 134217727, 134217727, 536870911, 1073741823, 2147483647, 4294967295]) (ms := []) (E := Ext G0) mixed (by kernel_rfl) rfl (by kernel_rfl) rfl
          apply owed_walk rfl
          · intro w1 hw hf
            have htb := ((htab.ext y2).ext hx).ext hw.ofDrew
            have hvl := (hv0.out.ext hx).ext hw.ofDrew
            obtain ⟨q0, q1, q2, q3⟩ := cells4 (ext_heapD hw gS (fun x => x))
            go_wp2
            exact ⟨rfl, rfl, Ext.refl _ _⟩
          · simp
          · go_simp
            try rfl
          apply owed_walk rfl
          · intro w1 hw hf
            have htb := ((htab.ext y2).ext hx).ext hw.ofDrew
            have hvl := (hv0.out.ext hx).ext hw.ofDrew
            go_wp2
            exact ⟨rfl, rfl, Ext.refl _ _⟩
          · simp
          · go_simp
            try rfl
          apply owed_walk rfl
          · intro w1 hw hf
            have htb := ((htab.ext y2).ext hx).ext hw.ofDrew
            have hvl := (hv0.out.ext hx).ext hw.ofDrew
            go_wp2_with (go_at_call 17; refine (hand.out _ _ hvl).mono ?_; rintro e w2 ⟨rfl, hx2⟩)
            exact ⟨rfl, rfl, Ext.of_below hx2 _⟩
          · simp
          · go_simp
            try rfl
          apply owed_walk rfl
          · intro w1 hw hf
            have htb := ((htab.ext y2).ext hx).ext hw.ofDrew
            have hvl := (hv0.out.ext hx).ext hw.ofDrew
            obtain ⟨q0, q1, q2, q3⟩ := cells4 (ext_heapD hw gA (fun x => x))
            go_wp2
            exact ⟨rfl, rfl, Ext.refl _ _⟩
          · simp
          · go_simp
            try rfl
          apply owed_walk rfl
          · intro w1 hw hf
            have htb := ((htab.ext y2).ext hx).ext hw.ofDrew
            have hvl := (hv0.out.ext hx).ext hw.ofDrew
            go_wp2
            exact ⟨rfl, rfl, Ext.refl _ _⟩
          · simp
          · go_simp
            try rfl
          apply owed_walk rfl
          · intro w1 hw hf
            have htb := ((htab.ext y2).ext hx).ext hw.ofDrew
            have hvl := (hv0.out.ext hx).ext hw.ofDrew
            go_wp2
            exact ⟨rfl, rfl, Ext.refl _ _⟩
          · simp
          · go_simp
            try rfl
          apply owed_walk rfl
          · intro w1 hw hf
            have htb := ((htab.ext y2).ext hx).ext hw.ofDrew
            have hvl := (hv0.out.ext hx).ext hw.ofDrew
            obtain ⟨q0, q1, q2, q3⟩ := cells4 (ext_heapD hw gS (fun x => x))
            go_wp2
            exact ⟨rfl, rfl, Ext.refl _ _⟩
          · simp
          · go_simp
            try rfl
          apply owed_walk rfl
          · intro w1 hw hf
            have htb := ((htab.ext y2).ext hx).ext hw.ofDrew
            have hvl := (hv0.out.ext hx).ext hw.ofDrew
            go_wp2
            exact ⟨rfl, rfl, Ext.refl _ _⟩
          · simp
          · go_simp
            try rfl
          apply owed_walk rfl
          · intro w1 hw hf
            have htb := ((htab.ext y2).ext hx).ext hw.ofDrew
            have hvl := (hv0.out.ext hx).ext hw.ofDrew
            go_wp2_with (go_at_call 21; refine (hor.out _ _ hvl).mono ?_; rintro e w2 ⟨rfl, hx2⟩)
            exact ⟨rfl, rfl, Ext.of_below hx2 _⟩
          · simp
          · go_simp
            try rfl
          apply owed_walk rfl
          · intro w1 hw hf
            have htb := ((htab.ext y2).ext hx).ext hw.ofDrew
            have hvl := (hv0.out.ext hx).ext hw.ofDrew
            obtain ⟨q0, q1, q2, q3⟩ := cells4 (ext_heapD hw gO (fun x => x))
            go_wp2
            exact ⟨rfl, rfl, Ext.refl _ _⟩
          · simp
          · go_simp
            try rfl
          apply owed_walk rfl
          · intro w1 hw hf
            have htb := ((htab.ext y2).ext hx).ext hw.ofDrew
            have hvl := (hv0.out.ext hx).ext hw.ofDrew
            go_wp2
            exact ⟨rfl, rfl, Ext.refl _ _⟩
          · simp
          · go_simp
            try rfl
          apply owed_walk rfl
          · intro w1 hw hf
            have htb := ((htab.ext y2).ext hx).ext hw.ofDrew
            have hvl := (hv0.out.ext hx).ext hw.ofDrew
            go_wp2
            exact ⟨rfl, rfl, Ext.refl _ _⟩
          · simp
          · go_simp
            try rfl
          apply owed_walk rfl
          · intro w1 hw hf
            have htb := ((htab.ext y2).ext hx).ext hw.ofDrew
            have hvl := (hv0.out.ext hx).ext hw.ofDrew
            go_wp2
            exact ⟨rfl, rfl, Ext.refl _ _⟩
          · simp
          · go_simp
            try rfl
          apply owed_walk rfl
          · intro w1 hw hf
            have htb := ((htab.ext y2).ext hx).ext hw.ofDrew
            have hvl := (hv0.out.ext hx).ext hw.ofDrew
            obtain ⟨q0, q1, q2, q3⟩ := cells4 (ext_heapD hw gS (fun x => x))
            go_wp2
            exact ⟨rfl, rfl, Ext.refl _ _⟩
          · simp
          · go_simp
            try rfl
          apply owed_walk rfl
          · intro w1 hw hf
            have htb := ((htab.ext y2).ext hx).ext hw.ofDrew
            have hvl := (hv0.out.ext hx).ext hw.ofDrew
            go_wp2_with (go_at_call 20; refine (not_any _ _).mono ?_; rintro e w2 ⟨rfl, hx2⟩)
            exact ⟨rfl, rfl, Ext.of_below hx2 _⟩
          · simp
          · go_simp
            try rfl
          apply owed_walk rfl
          · intro w1 hw hf
            have htb := ((htab.ext y2).ext hx).ext hw.ofDrew
            have hvl := (hv0.out.ext hx).ext hw.ofDrew
            obtain ⟨q0, q1, q2, q3⟩ := cells4 (ext_heapD hw gS (fun x => x))
            go_wp2
            exact ⟨rfl, rfl, Ext.refl _ _⟩
          · simp
          · go_simp
            try rfl
          apply owed_walk rfl
          · intro w1 hw hf
            have htb := ((htab.ext y2).ext hx).ext hw.ofDrew
            have hvl := (hv0.out.ext hx).ext hw.ofDrew
            go_wp2_with (go_at_call 35; refine (rnot_any _ _).mono ?_; rintro e w2 ⟨rfl, hx2⟩)
            exact ⟨rfl, rfl, Ext.of_below hx2 _⟩
          · simp
          · go_simp
            try rfl
          apply owed_walk rfl
          · intro w1 hw hf
            have htb := ((htab.ext y2).ext hx).ext hw.ofDrew
            have hvl := (hv0.out.ext hx).ext hw.ofDrew
            go_wp2
            exact ⟨rfl, rfl, Ext.refl _ _⟩
          · simp
          · go_simp
            try rfl
          apply owed_walk rfl
          · intro w1 hw hf
            have htb := ((htab.ext y2).ext hx).ext hw.ofDrew
            have hvl := (hv0.out.ext hx).ext hw.ofDrew
            go_wp2
            exact ⟨rfl, rfl, Ext.refl _ _⟩
          · simp
          · go_simp
            try rfl
          apply owed_walk rfl
          · intro w1 hw hf
            have htb := ((htab.ext y2).ext hx).ext hw.ofDrew
            have hvl := (hv0.out.ext hx).ext hw.ofDrew
            go_wp2
            exact ⟨rfl, rfl, Ext.refl _ _⟩
          · simp
          · go_simp
            try rfl
          apply owed_walk rfl
          · intro w1 hw hf
            have htb := ((htab.ext y2).ext hx).ext hw.ofDrew
            have hvl := (hv0.out.ext hx).ext hw.ofDrew
            obtain ⟨q0, q1, q2, q3⟩ := cells4 (ext_heapD hw gS (fun x => x))
            go_wp2
            exact ⟨rfl, rfl, Ext.refl _ _⟩
          · simp
          · go_simp
            try rfl
          apply owed_walk rfl
          · intro w1 hw hf
            have htb := ((htab.ext y2).ext hx).ext hw.ofDrew
            have hvl := (hv0.out.ext hx).ext hw.ofDrew
            go_wp2_with (go_at_call 16; refine (fold_any _ _ htb).mono ?_; rintro e w2 ⟨rfl, hx2⟩)
            exact ⟨rfl, rfl, Ext.of_below hx2 _⟩
          · simp
          · go_simp
            try rfl
          apply owed_walk rfl
          · intro w1 hw hf
            have htb := ((htab.ext y2).ext hx).ext hw.ofDrew
            have hvl := (hv0.out.ext hx).ext hw.ofDrew
            obtain ⟨q0, q1, q2, q3⟩ := cells4 (ext_heapD hw gS (fun x => x))
            go_wp2
            exact ⟨rfl, rfl, Ext.refl _ _⟩
          · simp
          · go_simp
            try rfl
          apply owed_walk rfl
          · intro w1 hw hf
            have htb := ((htab.ext y2).ext hx).ext hw.ofDrew
            have hvl := (hv0.out.ext hx).ext hw.ofDrew
            go_wp2_with (go_at_call 36; refine (rfold_any _ _).mono ?_; rintro e w2 ⟨rfl, hx2⟩)
            exact ⟨rfl, rfl, Ext.of_below hx2 _⟩
          · simp
          · go_simp
            try rfl
          apply owed_walk rfl
          · intro w1 hw hf
            have htb := ((htab.ext y2).ext hx).ext hw.ofDrew
            have hvl := (hv0.out.ext hx).ext hw.ofDrew
            go_wp2
            exact ⟨rfl, rfl, Ext.refl _ _⟩
          · simp
          · go_simp
            try rfl
          apply owed_walk rfl
          · intro w1 hw hf
            have htb := ((htab.ext y2).ext hx).ext hw.ofDrew
            have hvl := (hv0.out.ext hx).ext hw.ofDrew
            go_wp2
            exact ⟨rfl, rfl, Ext.refl _ _⟩
          · simp
          · go_simp
            try rfl
          apply owed_walk rfl
          · intro w1 hw hf
            have htb := ((htab.ext y2).ext hx).ext hw.ofDrew
            have hvl := (hv0.out.ext hx).ext hw.ofDrew
            go_wp2
            exact ⟨rfl, rfl, Ext.refl _ _⟩
          · simp
          · go_simp
            try rfl
          apply owed_walk rfl
          · intro w1 hw hf
            have htb := ((htab.ext y2).ext hx).ext hw.ofDrew
            have hvl := (hv0.out.ext hx).ext hw.ofDrew
            obtain ⟨q0, q1, q2, q3⟩ := cells4 (ext_heapD hw gS (fun x => x))
            go_wp2
            exact ⟨rfl, rfl, Ext.refl _ _⟩
          · simp
          · go_simp
            try rfl
          apply owed_walk rfl
          · intro w1 hw hf
            have htb := ((htab.ext y2).ext hx).ext hw.ofDrew
            have hvl := (hv0.out.ext hx).ext hw.ofDrew
            obtain ⟨q0, q1, q2, q3⟩ := cells4 (ext_heapD hw gS (fun x => x))
            go_wp2
            exact ⟨rfl, rfl, Ext.refl _ _⟩
          · simp
          · go_simp
            try rfl
          apply owed_walk rfl
          · intro w1 hw hf
            have htb := ((htab.ext y2).ext hx).ext hw.ofDrew
            have hvl := (hv0.out.ext hx).ext hw.ofDrew
            go_wp2_with (go_at_call 19; refine (HCC.out _ htb).mono ?_; rintro e w2 ⟨rfl, hx2⟩)
            exact ⟨rfl, rfl, Ext.of_below hx2 _⟩
          · simp
          · go_simp
            try rfl
          apply owed_walk rfl
          · intro w1 hw hf
            have htb := ((htab.ext y2).ext hx).ext hw.ofDrew
            have hvl := (hv0.out.ext hx).ext hw.ofDrew
            go_wp2
            exact ⟨rfl, rfl, Ext.refl _ _⟩
          · simp
          · go_simp
            try rfl
          apply owed_walk rfl
          · intro w1 hw hf
            have htb := ((htab.ext y2).ext hx).ext hw.ofDrew
            have hvl := (hv0.out.ext hx).ext hw.ofDrew
            go_wp2
            exact ⟨rfl, rfl, Ext.refl _ _⟩
          · simp
          · go_simp
            try rfl
          apply owed_walk rfl
          · intro w1 hw hf
            have htb := ((htab.ext y2).ext hx).ext hw.ofDrew
            have hvl := (hv0.out.ext hx).ext hw.ofDrew
            go_wp2
            exact ⟨rfl, rfl, Ext.refl _ _⟩
          · simp
          · go_simp
            try rfl
          apply owed_end
          intro w7 hw _
          refine Tail.nil rfl ?_
          go_wp2
          go_ret
          exact ⟨rfl, ((y2.trans hx).trans hw.ofDrew).below⟩
end Go.Proofs.YtejialnbelleeaaDoor
