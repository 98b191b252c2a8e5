/-
  SetHas is true: the walk. The second half is filled by wip/tools/mk_hasj.py.
-/
import Derived.Test.YtejialnbelleeaaDoorHasP
import Derived.Test.YtejialnbelleeaaDoorRefH
import Derived.Test.YtejialnbelleeaaDoorRefC
namespace Go.Proofs.YtejialnbelleeaaDoor
open Go Go.RowKit

theorem bytes_same (s : Bs) : (bytesS s).map (·.val) = preS s 256 := by rw [← preF_all, preF_map s 256 (Nat.le_refl _)]
theorem bytes_at2 (s : Bs) (w : World) (htab : TabOk w) :
    Calls Tryd.prog 14 #[setV s] w fun e w' => ∃ v, e = .returned v ∧ BytesAt w' v (preS s 256) ∧ Below w.heap.size w w' := by
  refine (bytes_any s w htab).mono ?_
  rintro e w' ⟨v, rfl, ho, hb⟩
  have hlen := preS_len s 256
  rw [show (bytesS s).map byteV = (preS s 256).flatMap byteL by rw [← bytes_same, List.flatMap_map, List.map_eq_flatMap]; rfl, show (bytesS s).length = (preS s 256).length by rw [← bytes_same, List.length_map]] at ho
  exact ⟨v, rfl, SlAt.of_owns (fun _ _ => rfl) ho (by omega), hb⟩
theorem count_at (s : Bs) (w : World) :
    Calls Tryd.prog 15 #[setV s] w fun e w' => e = .returned (.int .i64 ((preS s 256).length : Int)) ∧ Below w.heap.size w w' := by
  have := count_any s w
  rwa [← bytesS_count, show (bytesS s).length = (preS s 256).length by rw [← bytes_same, List.length_map]] at this
theorem cells_lit_new2 (w : World) (cs : List Value) (t : TypeId) : ∀ j u, cs[j]? = some u → (w.alloc (.cells cs.toArray t)).cell? ((⟨w.heap.size, 0, none⟩ : Addr).add j) = some u := by
  intro j u h
  have := blk_cell (heap_new w (.cells cs.toArray t)) j
  rw [show (⟨w.heap.size, 0, none⟩ : Addr).add j = ⟨w.heap.size, j, none⟩ by simp [Addr.add]; intro e; exact e.symm, this]
  rw [← h]
  exact List.getElem?_toArray
theorem ints_cell {w wr : World} {l : List Int} {b off k : Nat} (h : ∀ i x, l[i]? = some x → ∀ j y, (intL x)[j]? = some y → w.cell? ⟨b, off + i * 1 + j, none⟩ = some y) (hx : Ext G0 w wr) (hk : k < l.length) :
    wr.cell? ⟨b, off + k, none⟩ = some (.int .i64 l[k]) := by
  have h := h k l[k] (by simp [hk]) 0 _ rfl
  rw [Nat.mul_one] at h
  exact cell_ext hx h

set_option maxRecDepth 100000 in
set_option maxHeartbeats 32000000 in
theorem has_walk (x0 : List Nat) (l : List Bs) (y0 : List Int) (A B C : Option Addr) (nA cA nB cB nC cC : Nat) (w : World) (htab : TabOk w) (hx0 : BytesAt w (.slice A nA cA) x0) (hl : SetsAt w (.slice B nB cB) l) (hy0 : SlAt 1 intL w (.slice C nC cC) y0)
    (hxb : ∀ b ∈ x0, b < 256) (hyb : ∀ n ∈ y0, -9223372036854775808 ≤ n ∧ n < 9223372036854775808) :
    Calls Tryd.prog 9 #[.slice A nA cA, .slice B nB cB, .slice C nC cC] w fun e w' => e = .returned (.bool true) ∧ Below w.heap.size w w' := by
  obtain ⟨i0, hi, hz0, hz1, hz2⟩ := info_parts info_ofInt
  obtain ⟨hnA, hncA, hnmA⟩ := hx0.length
  obtain ⟨hnC, hncC, hnmC⟩ := hy0.length
  have hslice : ∃ m, BytesAt w (.slice A m cA) (x0.take 300) ∧ min (nA : Int) 300 = (m : Int) ∧ m ≤ nA ∧ m ≤ 300 ∧ (x0.take 300).length = m := by
    have := hx0.take 300
    by_cases h : nA ≤ 300
    · rw [Nat.min_eq_left h] at this
      exact ⟨nA, this, by omega, Nat.le_refl _, h, by rw [List.length_take]; omega⟩
    · rw [Nat.min_eq_right (by omega)] at this
      exact ⟨300, this, by omega, by omega, Nat.le_refl _, by rw [List.length_take]; omega⟩
  obtain ⟨m, hsl, hmin, hmn, hm300, hxm⟩ := hslice
  have hslice2 : ∃ q, SlAt 1 intL w (.slice C q cC) (y0.take 8) ∧ min (nC : Int) 8 = (q : Int) ∧ q ≤ nC ∧ q ≤ 8 ∧ (y0.take 8).length = q := by
    have := hy0.take 8
    by_cases h : nC ≤ 8
    · rw [Nat.min_eq_left h] at this
      exact ⟨nC, this, by omega, Nat.le_refl _, h, by rw [List.length_take]; omega⟩
    · rw [Nat.min_eq_right (by omega)] at this
      exact ⟨8, this, by omega, by omega, Nat.le_refl _, by rw [List.length_take]; omega⟩
  obtain ⟨q, hslC, hminC, hqn, hq8, hyq⟩ := hslice2
  have hxb' : ∀ b ∈ x0.take 300, b < 256 := fun b hb => hxb b (List.mem_of_mem_take hb)
  have hyb' : ∀ n ∈ y0.take 8, -9223372036854775808 ≤ n ∧ n < 9223372036854775808 := fun b hb => hyb b (List.mem_of_mem_take hb)
  clear hx0 hnA hy0 hnC hxb hyb
  generalize x0.take 300 = x at *
  generalize y0.take 8 = y at *
  obtain ⟨_, _, he, ⟨hlB, hlBm⟩, hcellsB⟩ := hl
  injection he with e1 e2 e3
  subst e1 e2 e3
  replace hcellsB := Lib.hid hcellsB
  have HX := Lib.hid hxb'
  have HY := Lib.hid hyb'
  have HO := Lib.hid (fun v w hv => of_any x v w hv hxb')
  have HR := Lib.hid (fun v w hv => rfromBytes_any x v w hv hxb')
  have eS := equalIn_set (listS x) (listS x)
  rw [decide_eq_true rfl] at eS
  clear hxb' hyb'
  replace hsl := Lib.hid hsl
  replace hslC := Lib.hid hslC
  replace hxm := Lib.hid hxm
  replace hyq := Lib.hid hyq
  have hmc : m ≤ cA := by omega
  go_enter Tryd.func9, Tryd.ntmps9
  go_wp2_with fail
  refine (wakes_any _ htab).mono ?_
  rintro e w1 ⟨rfl, b1⟩
  have y1 := Ext.of_below b1 G0
  clear b1
  go_wp2_with fail
  refine (cloneByte_any x _ _ (hsl.out.ext y1) (by rw [hxm.out]; omega)).mono ?_
  rintro e w2 ⟨v', rfl, hown, b2⟩
  have y2 := y1.trans (Ext.of_below b2 G0)
  have hv := SlAt.of_owns (sz := 1) (enc := byteL) (fun _ _ => rfl) hown (by rw [hxm.out]; omega)
  clear b2 hown y1
  have hv0 := Lib.hid hv
  obtain ⟨A', c', rfl, ⟨hlc', hlm'⟩, hcells⟩ := hv
  replace hcells := Lib.hid hcells
  rw [hxm.out] at hv0 hlc'
  rw [hxm.out]
  clear hlm'
  go_wp2_with fail
  refine (HO.out _ _ hv0.out).mono ?_
  rintro e w3 ⟨rfl, b3⟩
  have x3 := Ext.of_below b3 G0
  clear b3
  go_wp2_with fail
  refine (HR.out _ _ (hv0.out.ext x3)).mono ?_
  rintro e w4 ⟨rfl, b4⟩
  replace x3 := x3.trans (Ext.of_below b4 G0)
  clear b4
  go_wp2_with fail
  refine (equalB_same x _ _ _ (hv0.out.ext x3) (hsl.out.ext (y2.trans x3))).mono ?_
  rintro e w5 ⟨rfl, b5⟩
  have x5 := x3.trans (Ext.of_below b5 G0)
  clear b5 x3
  go_wp2_with fail
  go_loopw [8] (fun i wr => ∃ k : Nat, 1 ≤ k ∧ k ≤ 12 ∧ i = .int .i64 (k : Int) ∧ Ext G0 w2 wr) (fun i _ => 13 - (intOf i).toNat)
  case atStart => exact ⟨1, Nat.le_refl _, by omega, rfl, x5⟩
  case round =>
    obtain ⟨k, hk1, hk12, rfl, hx⟩ := hrel
    clear x5
    by_cases hlt : k < m ∧ k < 12
    · have i1 : decide ((k : Int) < (m : Int)) = true := by simp; omega
      have i2 : decide ((k : Int) < 12) = true := by simp; omega
      have hkl : k < x.length := by rw [hxm.out]; omega
      have hkl1 : k - 1 < x.length := by omega
      have i3 : (k : Int) - 1 = ((k - 1 : Nat) : Int) := by omega
      have i4 : ((k - 1 : Nat) : Int) < (m : Int) := by omega
      have i5 : (k : Int) < (m : Int) := by omega
      rcases hcells.out with h | ⟨b, off, hA, hcell⟩
      · rw [h] at hkl; simp at hkl
      subst hA
      have d0 := bytes_cell hcell hx hkl1
      have d1 := bytes_cell hcell hx hkl
      have b0 := HX.out _ (List.getElem_mem hkl1)
      have b1 := HX.out _ (List.getElem_mem hkl)
      clear hcell
      generalize x[k] = hh at *
      generalize x[k - 1] = lo at *
      have j1 : (0 : Int) ≤ (lo : Int) := by omega
      have j2 : (lo : Int) < 256 := by omega
      have j3 : (0 : Int) ≤ (hh : Int) := by omega
      have j4 : (hh : Int) < 256 := by omega
      have es := equalIn_set (spanS lo hh) (spanS lo hh)
      rw [decide_eq_true rfl] at es
      go_wp2_with fail
      apply region_phi (leaves := (Leaf.val _) :: (Leaf.val _) :: (Leaf.val _) :: (Leaf.val _) :: (Leaf.val _) :: (Leaf.val _) :: (Leaf.val _) :: (Leaf.val _) :: (Leaf.val _) :: (Leaf.val _) :: (Leaf.val _) :: (Leaf.val _) :: (Leaf.val _) :: (Leaf.val _) :: (Leaf.val _) :: (Leaf.val _) :: (Leaf.val _) :: (Leaf.val _) :: (Leaf.val _) :: (Leaf.val _) :: (Leaf.val _) :: (Leaf.val _) :: (Leaf.val _) :: ([] : List Leaf)) (k := 23) (b := #[0, 0, 2, 7, 15, 0, 0, 96, 224, 511, 0, 0, 2048, 7168, 15360, 31744, 0, 0, 196608, 458752, 983040, 2097151, 4194303]) (ms := []) (E := Ext G0) mixed (by kernel_rfl) rfl (by kernel_rfl) rfl
      apply owed_walk rfl
      · intro w1 hw hf
        have s0 := cell_ext hw.ofDrew d0
        have s1 := cell_ext hw.ofDrew d1
        go_wp2
        exact ⟨rfl, rfl, Ext.refl _ _⟩
      · simp
      · go_simp
        try rfl
      apply owed_walk rfl
      · intro w1 hw hf
        have s0 := cell_ext hw.ofDrew d0
        have s1 := cell_ext hw.ofDrew d1
        go_wp2
        exact ⟨rfl, rfl, Ext.refl _ _⟩
      · simp
      · go_simp
        try rfl
      apply owed_walk rfl
      · intro w1 hw hf
        have s0 := cell_ext hw.ofDrew d0
        have s1 := cell_ext hw.ofDrew d1
        go_wp2
        exact ⟨rfl, rfl, Ext.refl _ _⟩
      · simp
      · go_simp
        try rfl
      apply owed_walk rfl
      · intro w1 hw hf
        have s0 := cell_ext hw.ofDrew d0
        have s1 := cell_ext hw.ofDrew d1
        go_wp2
        exact ⟨rfl, rfl, Ext.refl _ _⟩
      · simp
      · go_simp
        try rfl
      apply owed_walk rfl
      · intro w1 hw hf
        have s0 := cell_ext hw.ofDrew d0
        have s1 := cell_ext hw.ofDrew d1
        go_wp2
        exact ⟨rfl, rfl, Ext.refl _ _⟩
      · simp
      · go_simp
        try rfl
      apply owed_walk rfl
      · intro w1 hw hf
        have s0 := cell_ext hw.ofDrew d0
        have s1 := cell_ext hw.ofDrew d1
        go_wp2
        exact ⟨rfl, rfl, Ext.refl _ _⟩
      · simp
      · go_simp
        try rfl
      apply owed_walk rfl
      · intro w1 hw hf
        have s0 := cell_ext hw.ofDrew d0
        have s1 := cell_ext hw.ofDrew d1
        go_wp2
        exact ⟨rfl, rfl, Ext.refl _ _⟩
      · simp
      · go_simp
        try rfl
      apply owed_walk rfl
      · intro w1 hw hf
        have s0 := cell_ext hw.ofDrew d0
        have s1 := cell_ext hw.ofDrew d1
        go_wp2
        exact ⟨rfl, rfl, Ext.refl _ _⟩
      · simp
      · go_simp
        try rfl
      apply owed_walk rfl
      · intro w1 hw hf
        have s0 := cell_ext hw.ofDrew d0
        have s1 := cell_ext hw.ofDrew d1
        go_wp2
        exact ⟨rfl, rfl, Ext.refl _ _⟩
      · simp
      · go_simp
        try rfl
      apply owed_walk rfl
      · intro w1 hw hf
        have s0 := cell_ext hw.ofDrew d0
        have s1 := cell_ext hw.ofDrew d1
        go_wp2_with (go_at_call 40; refine (span_any lo hh _ b0 b1).mono ?_; rintro e w2 ⟨rfl, hx2⟩)
        exact ⟨rfl, rfl, Ext.of_below hx2 _⟩
      · simp
      · go_simp
        try rfl
      apply owed_walk rfl
      · intro w1 hw hf
        have s0 := cell_ext hw.ofDrew d0
        have s1 := cell_ext hw.ofDrew d1
        go_wp2
        exact ⟨rfl, rfl, Ext.refl _ _⟩
      · simp
      · go_simp
        try rfl
      apply owed_walk rfl
      · intro w1 hw hf
        have s0 := cell_ext hw.ofDrew d0
        have s1 := cell_ext hw.ofDrew d1
        go_wp2
        exact ⟨rfl, rfl, Ext.refl _ _⟩
      · simp
      · go_simp
        try rfl
      apply owed_walk rfl
      · intro w1 hw hf
        have s0 := cell_ext hw.ofDrew d0
        have s1 := cell_ext hw.ofDrew d1
        go_wp2
        exact ⟨rfl, rfl, Ext.refl _ _⟩
      · simp
      · go_simp
        try rfl
      apply owed_walk rfl
      · intro w1 hw hf
        have s0 := cell_ext hw.ofDrew d0
        have s1 := cell_ext hw.ofDrew d1
        go_wp2
        exact ⟨rfl, rfl, Ext.refl _ _⟩
      · simp
      · go_simp
        try rfl
      apply owed_walk rfl
      · intro w1 hw hf
        have s0 := cell_ext hw.ofDrew d0
        have s1 := cell_ext hw.ofDrew d1
        go_wp2
        exact ⟨rfl, rfl, Ext.refl _ _⟩
      · simp
      · go_simp
        try rfl
      apply owed_walk rfl
      · intro w1 hw hf
        have s0 := cell_ext hw.ofDrew d0
        have s1 := cell_ext hw.ofDrew d1
        go_wp2
        exact ⟨rfl, rfl, Ext.refl _ _⟩
      · simp
      · go_simp
        try rfl
      apply owed_walk rfl
      · intro w1 hw hf
        have s0 := cell_ext hw.ofDrew d0
        have s1 := cell_ext hw.ofDrew d1
        go_wp2
        exact ⟨rfl, rfl, Ext.refl _ _⟩
      · simp
      · go_simp
        try rfl
      apply owed_walk rfl
      · intro w1 hw hf
        have s0 := cell_ext hw.ofDrew d0
        have s1 := cell_ext hw.ofDrew d1
        go_wp2
        exact ⟨rfl, rfl, Ext.refl _ _⟩
      · simp
      · go_simp
        try rfl
      apply owed_walk rfl
      · intro w1 hw hf
        have s0 := cell_ext hw.ofDrew d0
        have s1 := cell_ext hw.ofDrew d1
        go_wp2
        exact ⟨rfl, rfl, Ext.refl _ _⟩
      · simp
      · go_simp
        try rfl
      apply owed_walk rfl
      · intro w1 hw hf
        have s0 := cell_ext hw.ofDrew d0
        have s1 := cell_ext hw.ofDrew d1
        go_wp2
        exact ⟨rfl, rfl, Ext.refl _ _⟩
      · simp
      · go_simp
        try rfl
      apply owed_walk rfl
      · intro w1 hw hf
        have s0 := cell_ext hw.ofDrew d0
        have s1 := cell_ext hw.ofDrew d1
        go_wp2
        exact ⟨rfl, rfl, Ext.refl _ _⟩
      · simp
      · go_simp
        try rfl
      apply owed_walk rfl
      · intro w1 hw hf
        have s0 := cell_ext hw.ofDrew d0
        have s1 := cell_ext hw.ofDrew d1
        go_wp2_with (go_at_call 41; refine (rspan_any lo hh _ b1).mono ?_; rintro e w2 ⟨rfl, hx2⟩)
        exact ⟨rfl, rfl, Ext.of_below hx2 _⟩
      · simp
      · go_simp
        try rfl
      apply owed_walk rfl
      · intro w1 hw hf
        have s0 := cell_ext hw.ofDrew d0
        have s1 := cell_ext hw.ofDrew d1
        go_wp2
        exact ⟨rfl, rfl, Ext.refl _ _⟩
      · simp
      · go_simp
        try rfl
      apply owed_end
      intro w6 hw _
      refine Tail.nil rfl ?_
      go_wp2
      go_roundw
      case rel => exact ⟨k + 1, by omega, by omega, by go_num, hx.trans hw.ofDrew⟩
      case measure => simp [intOf]; omega
    · have hfin : decide (k < m) = false ∨ (decide (k < m) = true ∧ decide ((k : Int) < 12) = false) := by
        by_cases h : k < m
        · exact .inr ⟨by simp; omega, by simp; omega⟩
        · exact .inl (by simp; omega)
      rcases hfin with i1 | ⟨i1, i2⟩
      all_goals
        go_wp2_with fail
        go_loopw [76] (fun i wr => ∃ k : Nat, k ≤ l.length ∧ k ≤ 8 ∧ i = .int .i64 (k : Int) ∧ Ext G0 w2 wr) (fun i _ => l.length - (intOf i).toNat)
        case atStart => exact ⟨0, Nat.zero_le _, Nat.zero_le _, rfl, hx⟩
        case round =>
          clear i1 hlt
          obtain ⟨k, hkl, hk8, rfl, hx⟩ := hrel
          by_cases hlt : k < l.length
          · have i1 : (k : Int) < (l.length : Int) := by omega
            rcases hcellsB.out with h | ⟨b, off, hA, hcell⟩
            · rw [h] at hlt; simp at hlt
            subst hA
            obtain ⟨d0, d1, d2, d3⟩ := sets_cells hcell (y2.trans hx) hlt
            clear hcell
            generalize l[k] = z at *
            by_cases h8 : k = 8
            · subst h8
              go_wp2
              go_ret
              exact ⟨rfl, ((y2.trans hx).alloc _).below⟩
            · have t8 : ((k : Int) == 8) = false := by simp; omega
              go_wp2_with fail
              clear d0 d1 d2 d3
              generalize hwz : World.alloc wr _ = wz
              have gZ : wz.heap[wr.heap.size]? = some (.cells (setC z) 24 (0, 0)) := by rw [← hwz]; exact heap_new _ _
              replace hx : Ext G0 w2 wz := by rw [← hwz]; exact hx.alloc _
              clear hwz
              generalize wr.heap.size = nZ at *
              refine (rbytes_any z _).mono ?_
              rintro e w6 ⟨v6, rfl, hown, b6⟩
              have x6 := Ext.of_below b6 G0
              have hlen := preS_len z 256
              have hlz : ∀ b ∈ preS z 256, b < 256 := fun b h => ((preS_mem z b).1 h).1
              have hv6 := SlAt.of_owns (sz := 1) (enc := byteL) (fun _ _ => rfl) hown (by omega)
              replace gZ := ext_heap x6 gZ (fun x => x)
              replace hx := hx.trans x6
              clear b6 x6 hown
              have hv60 := Lib.hid hv6
              obtain ⟨A3, c3, rfl, ⟨hlc3, hlm3⟩, hcells3⟩ := hv6
              replace hcells3 := Lib.hid hcells3
              obtain ⟨q0, q1, q2, q3⟩ := cells4 gZ
              go_wp2_with fail
              refine (count_at z _).mono ?_
              rintro e w7 ⟨rfl, b7⟩
              have x7 := Ext.of_below b7 G0
              replace gZ := ext_heap x7 gZ (fun x => x)
              clear b7 q0 q1 q2 q3
              obtain ⟨q0, q1, q2, q3⟩ := cells4 gZ
              go_wp2_with fail
              refine (bytes_at2 z _ ((htab.ext y2).ext (hx.trans x7))).mono ?_
              rintro e w8 ⟨v8, rfl, hv8, b8⟩
              have x8 := x7.trans (Ext.of_below b8 G0)
              replace gZ := ext_heap (Ext.of_below b8 G0) gZ (fun x => x)
              clear b8 x7 q0 q1 q2 q3
              go_wp2_with fail
              refine (equalB_same (preS z 256) _ _ _ hv8 (hv60.out.ext x8)).mono ?_
              rintro e w9 ⟨rfl, b9⟩
              have x9 := x8.trans (Ext.of_below b9 G0)
              replace gZ := ext_heap (Ext.of_below b9 G0) gZ (fun x => x)
              clear b9 x8 hv8
              go_wp2_with fail
              refine (cloneInt_any y _ _ (hslC.out.ext (y2.trans (hx.trans x9))) (by rw [hyq.out]; omega)).mono ?_
              rintro e wc ⟨vc, rfl, hownc, bc⟩
              have hsz9 := bc.size
              have hB9 : Below w9.heap.size w9 wc := bc
              rw [hyq.out] at hownc
              clear bc
              go_wp2_with (at_builtin; refine wpList_append_own _ rfl _ _ 58 rfl w9.heap.size 3 i0 _ 1 8 Tryd.underlying58 hi hz0 hz1 hz2 rfl (by decide) _ _ _ rfl (hownc.alloc _) ⟨wc.heap.size, 0, none⟩ 2 2 ([0, 255].flatMap intL) rfl rfl (cells_lit_new2 _ _ _) (by intro u hu; simp only [intL, List.flatMap_cons, List.flatMap_nil, List.append_nil, List.cons_append, List.nil_append, List.mem_cons, List.not_mem_nil, or_false] at hu; rcases hu with rfl | rfl <;> rfl) (by simp only [maxLen]; omega) (by omega) (by simp; omega) ?_; intro v2 w10 hown2 hgrow _; obtain ⟨g2, cap2, rfl⟩ := ownsRow_succ hown2)
              have hx10 := Ext.of_below ((hB9.alloc hsz9 _).grown hgrow (by simp; omega) (fun k hk => (hownc.lt _ hk).1)) G0
              have hLL : (y ++ [0, 255]).length = q + 2 := by rw [List.length_append, hyq.out]; rfl
              have hvN := SlAt.of_owns (sz := 1) (enc := intL) (l := y ++ [0, 255]) (fun _ _ => rfl) (by rw [hLL, List.flatMap_append]; exact hown2) (by omega)
              have hrg : ∀ n ∈ y ++ [0, 255], -9223372036854775808 ≤ n ∧ n < 9223372036854775808 := fun n hn => by
                rcases List.mem_append.1 hn with h | h
                · exact HY.out n h
                · simp at h; omega
              replace gZ := ext_heap hx10 gZ (fun x => x)
              have hx3 := x9.trans hx10
              clear hgrow hownc hown2 hB9 x9 hx10
              generalize y ++ [0, 255] = YL at *
              obtain ⟨A4, c4, he, ⟨hlc4, hlm4⟩, hcells4⟩ := hvN
              injection he with e1 e2 e3
              subst e1 e3
              clear e2
              have HL := Lib.hid hLL
              have HRG := Lib.hid hrg
              replace hcells4 := Lib.hid hcells4
              clear hLL hrg
              go_loopw [106] (fun i wr => ∃ k2 : Nat, k2 ≤ q + 2 ∧ i = .int .i64 (k2 : Int) ∧ Ext G0 w10 wr) (fun i _ => q + 2 - (intOf i).toNat)
              case atStart => exact ⟨0, Nat.zero_le _, rfl, Ext.refl _ _⟩
              case round =>
                obtain ⟨k2, hk2, rfl, hy⟩ := hrel
                by_cases hlt2 : k2 < q + 2
                · have i2 : (k2 : Int) < (q : Int) + 1 + 1 := by omega
                  have hkl2 : k2 < YL.length := by rw [HL.out]; exact hlt2
                  rcases hcells4.out with h | ⟨b, off, hA, hcell⟩
                  · rw [h] at hkl2; simp at hkl2
                  injection hA with hA
                  injection hA with hA1 hA2
                  subst hA1 hA2
                  have d0 := ints_cell hcell hy hkl2
                  rw [Nat.zero_add] at d0
                  obtain ⟨hn1, hn2⟩ := HRG.out _ (List.getElem_mem hkl2)
                  clear hcell
                  generalize YL[k2] = n at *
                  replace gZ := ext_heap hy gZ (fun x => x)
                  have hmf : ∀ (fn : Fn) (first cap : Array Value) (w : World), (Instr.makeFunc fn first cap).run Tryd.prog w = .ok (.func fn first cap) w := fun _ _ _ _ => rfl
                  go_wp2_with fail
                  clear d0
                  generalize hwz : World.alloc wr _ = wN
                  have gN : wN.heap[wr.heap.size]? = some (.cells #[.int .i64 n] 3 (0, 0)) := by rw [← hwz]; exact heap_new _ _
                  have hxN : Ext G0 wr wN := by rw [← hwz]; exact (Ext.refl _ _).alloc _
                  clear hwz
                  replace gZ := ext_heap hxN gZ (fun x => x)
                  replace hy := hy.trans hxN
                  clear hxN
                  generalize wr.heap.size = nN at *
                  refine (indexF_any (preS z 256) _ n nN _ (hv60.out.ext (hx3.trans hy)) hlz gN).mono ?_
                  rintro e w0 ⟨r, rfl, hF, rfl⟩
                  have hnx := found_next z n r hF
                  clear hF
                  have c13 : wN.cell? ⟨nN, 0, none⟩ = some (.int .i64 n) := blk_cell gN 0
                  have HNX := Lib.hid (fun w h => next_any z n w h (by omega) (by omega))
                  have hn3 : n < 0 ∨ (0 ≤ n ∧ 256 ≤ n) ∨ ∃ nn : Nat, n = (nn : Int) ∧ nn < 256 := by
                    by_cases h1 : n < 0
                    · exact .inl h1
                    · by_cases h2 : 256 ≤ n
                      · exact .inr (.inl ⟨by omega, h2⟩)
                      · exact .inr (.inr ⟨n.toNat, by omega, by omega⟩)
                  obtain ⟨q0, q1, q2, q3⟩ := cells4 gZ
                  rcases hnx with ⟨rfl, hnx⟩ | ⟨j, hj, rfl, hnx⟩
                  · rw [hnx, show nextV none = .tuple #[.int .u8 0, .bool false] from rfl] at HNX
                    clear hnx
                    go_wp2_with fail
                    refine (HNX.out _ ((htab.ext y2).ext (hx.trans (hx3.trans hy)))).mono ?_
                    rintro e w11 ⟨rfl, b11⟩
                    have x11 := Ext.of_below b11 G0
                    replace gZ := ext_heap x11 gZ (fun x => x)
                    replace gN := ext_heap x11 gN (fun x => x)
                    replace hy := hy.trans x11
                    clear b11 x11 q0 q1 q2 q3 c13
                    rcases hn3 with h1 | ⟨h1, h2⟩ | ⟨nn, rfl, h2⟩
                    · have t1 : decide ((0 : Int) ≤ n) = false := by simp; omega
                      go_wp2_with fail
                      apply region_phi (leaves := (Leaf.val _) :: (Leaf.val _) :: (Leaf.val _) :: (Leaf.val _) :: (Leaf.val _) :: (Leaf.val _) :: (Leaf.val _) :: (Leaf.val _) :: (Leaf.val _) :: (Leaf.val _) :: (Leaf.val _) :: (Leaf.val _) :: (Leaf.val _) :: (Leaf.val _) :: (Leaf.val _) :: (Leaf.val _) :: (Leaf.val _) :: (Leaf.val _) :: (Leaf.val _) :: (Leaf.val _) :: (Leaf.val _) :: (Leaf.val _) :: (Leaf.val _) :: (Leaf.val _) :: (Leaf.val _) :: (Leaf.val _) :: ([] : List Leaf)) (k := 26) (b := #[0, 0, 3, 7, 15, 15, 63, 127, 255, 511, 1023, 2047, 4095, 8191, 16383, 32767, 65535, 65535, 196607, 524287, 65535, 65535, 4194303, 8388607, 16777215, 33554431]) (ms := []) (E := Ext G0) mixed (by kernel_rfl) rfl (by kernel_rfl) rfl
                      apply owed_walk rfl
                      · intro w1 hw hf
                        have s0 := blk_cell (ext_heapD hw gN (fun x => x)) 0
                        go_wp2
                        exact ⟨rfl, rfl, Ext.refl _ _⟩
                      · simp
                      · go_simp
                        try rfl
                      apply owed_walk rfl
                      · intro w1 hw hf
                        have s0 := blk_cell (ext_heapD hw gN (fun x => x)) 0
                        go_wp2
                        exact ⟨rfl, rfl, Ext.refl _ _⟩
                      · simp
                      · go_simp
                        try rfl
                      apply owed_walk rfl
                      · intro w1 hw hf
                        have s0 := blk_cell (ext_heapD hw gN (fun x => x)) 0
                        go_wp2
                        exact ⟨rfl, rfl, Ext.refl _ _⟩
                      · simp
                      · go_simp
                        try rfl
                      apply owed_walk rfl
                      · intro w1 hw hf
                        have s0 := blk_cell (ext_heapD hw gN (fun x => x)) 0
                        go_wp2
                        exact ⟨rfl, rfl, Ext.refl _ _⟩
                      · simp
                      · go_simp
                        try rfl
                      apply owed_walk rfl
                      · intro w1 hw hf
                        have s0 := blk_cell (ext_heapD hw gN (fun x => x)) 0
                        go_wp2
                        exact ⟨rfl, rfl, Ext.refl _ _⟩
                      · simp
                      · go_simp
                        try rfl
                      apply owed_walk rfl
                      · intro w1 hw hf
                        have s0 := blk_cell (ext_heapD hw gN (fun x => x)) 0
                        go_wp2
                        exact ⟨rfl, rfl, Ext.refl _ _⟩
                      · simp
                      · go_simp
                        try rfl
                      apply owed_walk rfl
                      · intro w1 hw hf
                        have s0 := blk_cell (ext_heapD hw gN (fun x => x)) 0
                        go_wp2
                        exact ⟨rfl, rfl, Ext.refl _ _⟩
                      · simp
                      · go_simp
                        try rfl
                      apply owed_walk rfl
                      · intro w1 hw hf
                        have s0 := blk_cell (ext_heapD hw gN (fun x => x)) 0
                        go_wp2
                        exact ⟨rfl, rfl, Ext.refl _ _⟩
                      · simp
                      · go_simp
                        try rfl
                      apply owed_walk rfl
                      · intro w1 hw hf
                        have s0 := blk_cell (ext_heapD hw gN (fun x => x)) 0
                        go_wp2
                        exact ⟨rfl, rfl, Ext.refl _ _⟩
                      · simp
                      · go_simp
                        try rfl
                      apply owed_walk rfl
                      · intro w1 hw hf
                        have s0 := blk_cell (ext_heapD hw gN (fun x => x)) 0
                        go_wp2
                        exact ⟨rfl, rfl, Ext.refl _ _⟩
                      · simp
                      · go_simp
                        try rfl
                      apply owed_walk rfl
                      · intro w1 hw hf
                        have s0 := blk_cell (ext_heapD hw gN (fun x => x)) 0
                        go_wp2
                        exact ⟨rfl, rfl, Ext.refl _ _⟩
                      · simp
                      · go_simp
                        try rfl
                      apply owed_walk rfl
                      · intro w1 hw hf
                        have s0 := blk_cell (ext_heapD hw gN (fun x => x)) 0
                        go_wp2
                        exact ⟨rfl, rfl, Ext.refl _ _⟩
                      · simp
                      · go_simp
                        try rfl
                      apply owed_walk rfl
                      · intro w1 hw hf
                        have s0 := blk_cell (ext_heapD hw gN (fun x => x)) 0
                        go_wp2
                        exact ⟨rfl, rfl, Ext.refl _ _⟩
                      · simp
                      · go_simp
                        try rfl
                      apply owed_walk rfl
                      · intro w1 hw hf
                        have s0 := blk_cell (ext_heapD hw gN (fun x => x)) 0
                        go_wp2
                        exact ⟨rfl, rfl, Ext.refl _ _⟩
                      · simp
                      · go_simp
                        try rfl
                      apply owed_walk rfl
                      · intro w1 hw hf
                        have s0 := blk_cell (ext_heapD hw gN (fun x => x)) 0
                        go_wp2
                        exact ⟨rfl, rfl, Ext.refl _ _⟩
                      · simp
                      · go_simp
                        try rfl
                      apply owed_walk rfl
                      · intro w1 hw hf
                        have s0 := blk_cell (ext_heapD hw gN (fun x => x)) 0
                        go_wp2
                        exact ⟨rfl, rfl, Ext.refl _ _⟩
                      · simp
                      · go_simp
                        try rfl
                      apply owed_walk rfl
                      · intro w1 hw hf
                        have s0 := blk_cell (ext_heapD hw gN (fun x => x)) 0
                        obtain ⟨q0, q1, q2, q3⟩ := cells4 (ext_heapD hw gZ (fun x => x))
                        go_wp2
                        exact ⟨rfl, rfl, Ext.refl _ _⟩
                      · simp
                      · go_simp
                        try rfl
                      apply owed_walk rfl
                      · intro w1 hw hf
                        have s0 := blk_cell (ext_heapD hw gN (fun x => x)) 0
                        go_wp2
                        exact ⟨rfl, rfl, Ext.refl _ _⟩
                      · simp
                      · go_simp
                        try rfl
                      apply owed_walk rfl
                      · intro w1 hw hf
                        have s0 := blk_cell (ext_heapD hw gN (fun x => x)) 0
                        go_wp2
                        exact ⟨rfl, rfl, Ext.refl _ _⟩
                      · simp
                      · go_simp
                        try rfl
                      apply owed_walk rfl
                      · intro w1 hw hf
                        have s0 := blk_cell (ext_heapD hw gN (fun x => x)) 0
                        go_wp2
                        exact ⟨rfl, rfl, Ext.refl _ _⟩
                      · simp
                      · go_simp
                        try rfl
                      apply owed_walk rfl
                      · intro w1 hw hf
                        have s0 := blk_cell (ext_heapD hw gN (fun x => x)) 0
                        obtain ⟨q0, q1, q2, q3⟩ := cells4 (ext_heapD hw gZ (fun x => x))
                        go_wp2
                        exact ⟨rfl, rfl, Ext.refl _ _⟩
                      · simp
                      · go_simp
                        try rfl
                      apply owed_walk rfl
                      · intro w1 hw hf
                        have s0 := blk_cell (ext_heapD hw gN (fun x => x)) 0
                        go_wp2
                        exact ⟨rfl, rfl, Ext.refl _ _⟩
                      · simp
                      · go_simp
                        try rfl
                      apply owed_walk rfl
                      · intro w1 hw hf
                        have s0 := blk_cell (ext_heapD hw gN (fun x => x)) 0
                        go_wp2
                        exact ⟨rfl, rfl, Ext.refl _ _⟩
                      · simp
                      · go_simp
                        try rfl
                      apply owed_walk rfl
                      · intro w1 hw hf
                        have s0 := blk_cell (ext_heapD hw gN (fun x => x)) 0
                        go_wp2
                        exact ⟨rfl, rfl, Ext.refl _ _⟩
                      · simp
                      · go_simp
                        try rfl
                      apply owed_walk rfl
                      · intro w1 hw hf
                        have s0 := blk_cell (ext_heapD hw gN (fun x => x)) 0
                        go_wp2
                        exact ⟨rfl, rfl, Ext.refl _ _⟩
                      · simp
                      · go_simp
                        try rfl
                      apply owed_walk rfl
                      · intro w1 hw hf
                        have s0 := blk_cell (ext_heapD hw gN (fun x => x)) 0
                        go_wp2
                        exact ⟨rfl, rfl, Ext.refl _ _⟩
                      · simp
                      · go_simp
                        try rfl
                      apply owed_end
                      intro w12 hw _
                      refine Tail.nil rfl ?_
                      go_wp2
                      go_roundw
                      case rel => exact ⟨k2 + 1, by omega, by go_num, hy.trans hw.ofDrew⟩
                      case measure => simp [intOf]; omega
                    · have t1 : decide ((0 : Int) ≤ n) = true := by simp; omega
                      have t2 : decide (n < 256) = false := by simp; omega
                      go_wp2_with fail
                      apply region_phi (leaves := (Leaf.val _) :: (Leaf.val _) :: (Leaf.val _) :: (Leaf.val _) :: (Leaf.val _) :: (Leaf.val _) :: (Leaf.val _) :: (Leaf.val _) :: (Leaf.val _) :: (Leaf.val _) :: (Leaf.val _) :: (Leaf.val _) :: (Leaf.val _) :: (Leaf.val _) :: (Leaf.val _) :: (Leaf.val _) :: (Leaf.val _) :: (Leaf.val _) :: (Leaf.val _) :: (Leaf.val _) :: (Leaf.val _) :: (Leaf.val _) :: (Leaf.val _) :: (Leaf.val _) :: (Leaf.val _) :: (Leaf.val _) :: ([] : List Leaf)) (k := 26) (b := #[0, 0, 3, 7, 15, 15, 63, 127, 255, 511, 1023, 2047, 4095, 8191, 16383, 32767, 65535, 65535, 196607, 524287, 65535, 65535, 4194303, 8388607, 16777215, 33554431]) (ms := []) (E := Ext G0) mixed (by kernel_rfl) rfl (by kernel_rfl) rfl
                      apply owed_walk rfl
                      · intro w1 hw hf
                        have s0 := blk_cell (ext_heapD hw gN (fun x => x)) 0
                        go_wp2
                        exact ⟨rfl, rfl, Ext.refl _ _⟩
                      · simp
                      · go_simp
                        try rfl
                      apply owed_walk rfl
                      · intro w1 hw hf
                        have s0 := blk_cell (ext_heapD hw gN (fun x => x)) 0
                        go_wp2
                        exact ⟨rfl, rfl, Ext.refl _ _⟩
                      · simp
                      · go_simp
                        try rfl
                      apply owed_walk rfl
                      · intro w1 hw hf
                        have s0 := blk_cell (ext_heapD hw gN (fun x => x)) 0
                        go_wp2
                        exact ⟨rfl, rfl, Ext.refl _ _⟩
                      · simp
                      · go_simp
                        try rfl
                      apply owed_walk rfl
                      · intro w1 hw hf
                        have s0 := blk_cell (ext_heapD hw gN (fun x => x)) 0
                        go_wp2
                        exact ⟨rfl, rfl, Ext.refl _ _⟩
                      · simp
                      · go_simp
                        try rfl
                      apply owed_walk rfl
                      · intro w1 hw hf
                        have s0 := blk_cell (ext_heapD hw gN (fun x => x)) 0
                        go_wp2
                        exact ⟨rfl, rfl, Ext.refl _ _⟩
                      · simp
                      · go_simp
                        try rfl
                      apply owed_walk rfl
                      · intro w1 hw hf
                        have s0 := blk_cell (ext_heapD hw gN (fun x => x)) 0
                        go_wp2
                        exact ⟨rfl, rfl, Ext.refl _ _⟩
                      · simp
                      · go_simp
                        try rfl
                      apply owed_walk rfl
                      · intro w1 hw hf
                        have s0 := blk_cell (ext_heapD hw gN (fun x => x)) 0
                        go_wp2
                        exact ⟨rfl, rfl, Ext.refl _ _⟩
                      · simp
                      · go_simp
                        try rfl
                      apply owed_walk rfl
                      · intro w1 hw hf
                        have s0 := blk_cell (ext_heapD hw gN (fun x => x)) 0
                        go_wp2
                        exact ⟨rfl, rfl, Ext.refl _ _⟩
                      · simp
                      · go_simp
                        try rfl
                      apply owed_walk rfl
                      · intro w1 hw hf
                        have s0 := blk_cell (ext_heapD hw gN (fun x => x)) 0
                        go_wp2
                        exact ⟨rfl, rfl, Ext.refl _ _⟩
                      · simp
                      · go_simp
                        try rfl
                      apply owed_walk rfl
                      · intro w1 hw hf
                        have s0 := blk_cell (ext_heapD hw gN (fun x => x)) 0
                        go_wp2
                        exact ⟨rfl, rfl, Ext.refl _ _⟩
                      · simp
                      · go_simp
                        try rfl
                      apply owed_walk rfl
                      · intro w1 hw hf
                        have s0 := blk_cell (ext_heapD hw gN (fun x => x)) 0
                        go_wp2
                        exact ⟨rfl, rfl, Ext.refl _ _⟩
                      · simp
                      · go_simp
                        try rfl
                      apply owed_walk rfl
                      · intro w1 hw hf
                        have s0 := blk_cell (ext_heapD hw gN (fun x => x)) 0
                        go_wp2
                        exact ⟨rfl, rfl, Ext.refl _ _⟩
                      · simp
                      · go_simp
                        try rfl
                      apply owed_walk rfl
                      · intro w1 hw hf
                        have s0 := blk_cell (ext_heapD hw gN (fun x => x)) 0
                        go_wp2
                        exact ⟨rfl, rfl, Ext.refl _ _⟩
                      · simp
                      · go_simp
                        try rfl
                      apply owed_walk rfl
                      · intro w1 hw hf
                        have s0 := blk_cell (ext_heapD hw gN (fun x => x)) 0
                        go_wp2
                        exact ⟨rfl, rfl, Ext.refl _ _⟩
                      · simp
                      · go_simp
                        try rfl
                      apply owed_walk rfl
                      · intro w1 hw hf
                        have s0 := blk_cell (ext_heapD hw gN (fun x => x)) 0
                        go_wp2
                        exact ⟨rfl, rfl, Ext.refl _ _⟩
                      · simp
                      · go_simp
                        try rfl
                      apply owed_walk rfl
                      · intro w1 hw hf
                        have s0 := blk_cell (ext_heapD hw gN (fun x => x)) 0
                        go_wp2
                        exact ⟨rfl, rfl, Ext.refl _ _⟩
                      · simp
                      · go_simp
                        try rfl
                      apply owed_walk rfl
                      · intro w1 hw hf
                        have s0 := blk_cell (ext_heapD hw gN (fun x => x)) 0
                        obtain ⟨q0, q1, q2, q3⟩ := cells4 (ext_heapD hw gZ (fun x => x))
                        go_wp2
                        exact ⟨rfl, rfl, Ext.refl _ _⟩
                      · simp
                      · go_simp
                        try rfl
                      apply owed_walk rfl
                      · intro w1 hw hf
                        have s0 := blk_cell (ext_heapD hw gN (fun x => x)) 0
                        go_wp2
                        exact ⟨rfl, rfl, Ext.refl _ _⟩
                      · simp
                      · go_simp
                        try rfl
                      apply owed_walk rfl
                      · intro w1 hw hf
                        have s0 := blk_cell (ext_heapD hw gN (fun x => x)) 0
                        go_wp2
                        exact ⟨rfl, rfl, Ext.refl _ _⟩
                      · simp
                      · go_simp
                        try rfl
                      apply owed_walk rfl
                      · intro w1 hw hf
                        have s0 := blk_cell (ext_heapD hw gN (fun x => x)) 0
                        go_wp2
                        exact ⟨rfl, rfl, Ext.refl _ _⟩
                      · simp
                      · go_simp
                        try rfl
                      apply owed_walk rfl
                      · intro w1 hw hf
                        have s0 := blk_cell (ext_heapD hw gN (fun x => x)) 0
                        obtain ⟨q0, q1, q2, q3⟩ := cells4 (ext_heapD hw gZ (fun x => x))
                        go_wp2
                        exact ⟨rfl, rfl, Ext.refl _ _⟩
                      · simp
                      · go_simp
                        try rfl
                      apply owed_walk rfl
                      · intro w1 hw hf
                        have s0 := blk_cell (ext_heapD hw gN (fun x => x)) 0
                        go_wp2
                        exact ⟨rfl, rfl, Ext.refl _ _⟩
                      · simp
                      · go_simp
                        try rfl
                      apply owed_walk rfl
                      · intro w1 hw hf
                        have s0 := blk_cell (ext_heapD hw gN (fun x => x)) 0
                        go_wp2
                        exact ⟨rfl, rfl, Ext.refl _ _⟩
                      · simp
                      · go_simp
                        try rfl
                      apply owed_walk rfl
                      · intro w1 hw hf
                        have s0 := blk_cell (ext_heapD hw gN (fun x => x)) 0
                        go_wp2
                        exact ⟨rfl, rfl, Ext.refl _ _⟩
                      · simp
                      · go_simp
                        try rfl
                      apply owed_walk rfl
                      · intro w1 hw hf
                        have s0 := blk_cell (ext_heapD hw gN (fun x => x)) 0
                        go_wp2
                        exact ⟨rfl, rfl, Ext.refl _ _⟩
                      · simp
                      · go_simp
                        try rfl
                      apply owed_walk rfl
                      · intro w1 hw hf
                        have s0 := blk_cell (ext_heapD hw gN (fun x => x)) 0
                        go_wp2
                        exact ⟨rfl, rfl, Ext.refl _ _⟩
                      · simp
                      · go_simp
                        try rfl
                      apply owed_end
                      intro w12 hw _
                      refine Tail.nil rfl ?_
                      go_wp2
                      go_roundw
                      case rel => exact ⟨k2 + 1, by omega, by go_num, hy.trans hw.ofDrew⟩
                      case measure => simp [intOf]; omega
                    · have t1 : decide ((0 : Int) ≤ (nn : Int)) = true := by simp
                      have t2 : decide ((nn : Int) < 256) = true := by simp; omega
                      have t3 : (0 : Int) ≤ (nn : Int) := by omega
                      have t4 : (nn : Int) < 256 := by omega
                      have HH := Lib.hid (has_any z nn · h2)
                      have HG := Lib.hid (rhas_any z nn · h2)
                      generalize z.getLsbD nn = bit at *
                      go_wp2_with fail
                      apply region_phi (leaves := (Leaf.val _) :: (Leaf.val _) :: (Leaf.val _) :: (Leaf.val _) :: (Leaf.val _) :: (Leaf.val _) :: (Leaf.val _) :: (Leaf.val _) :: (Leaf.val _) :: (Leaf.val _) :: (Leaf.val _) :: (Leaf.val _) :: (Leaf.val _) :: (Leaf.val _) :: (Leaf.val _) :: (Leaf.val _) :: (Leaf.val _) :: (Leaf.val _) :: (Leaf.val _) :: (Leaf.val _) :: (Leaf.val _) :: (Leaf.val _) :: (Leaf.val _) :: (Leaf.val _) :: (Leaf.val _) :: (Leaf.val _) :: ([] : List Leaf)) (k := 26) (b := #[0, 0, 3, 7, 15, 15, 63, 127, 255, 511, 1023, 2047, 4095, 8191, 16383, 32767, 65535, 65535, 196607, 524287, 65535, 65535, 4194303, 8388607, 16777215, 33554431]) (ms := []) (E := Ext G0) mixed (by kernel_rfl) rfl (by kernel_rfl) rfl
                      apply owed_walk rfl
                      · intro w1 hw hf
                        have s0 := blk_cell (ext_heapD hw gN (fun x => x)) 0
                        go_wp2
                        exact ⟨rfl, rfl, Ext.refl _ _⟩
                      · simp
                      · go_simp
                        try rfl
                      apply owed_walk rfl
                      · intro w1 hw hf
                        have s0 := blk_cell (ext_heapD hw gN (fun x => x)) 0
                        go_wp2
                        exact ⟨rfl, rfl, Ext.refl _ _⟩
                      · simp
                      · go_simp
                        try rfl
                      apply owed_walk rfl
                      · intro w1 hw hf
                        have s0 := blk_cell (ext_heapD hw gN (fun x => x)) 0
                        go_wp2
                        exact ⟨rfl, rfl, Ext.refl _ _⟩
                      · simp
                      · go_simp
                        try rfl
                      apply owed_walk rfl
                      · intro w1 hw hf
                        have s0 := blk_cell (ext_heapD hw gN (fun x => x)) 0
                        go_wp2
                        exact ⟨rfl, rfl, Ext.refl _ _⟩
                      · simp
                      · go_simp
                        try rfl
                      apply owed_walk rfl
                      · intro w1 hw hf
                        have s0 := blk_cell (ext_heapD hw gN (fun x => x)) 0
                        go_wp2
                        exact ⟨rfl, rfl, Ext.refl _ _⟩
                      · simp
                      · go_simp
                        try rfl
                      apply owed_walk rfl
                      · intro w1 hw hf
                        have s0 := blk_cell (ext_heapD hw gN (fun x => x)) 0
                        go_wp2
                        exact ⟨rfl, rfl, Ext.refl _ _⟩
                      · simp
                      · go_simp
                        try rfl
                      apply owed_walk rfl
                      · intro w1 hw hf
                        have s0 := blk_cell (ext_heapD hw gN (fun x => x)) 0
                        go_wp2
                        exact ⟨rfl, rfl, Ext.refl _ _⟩
                      · simp
                      · go_simp
                        try rfl
                      apply owed_walk rfl
                      · intro w1 hw hf
                        have s0 := blk_cell (ext_heapD hw gN (fun x => x)) 0
                        go_wp2
                        exact ⟨rfl, rfl, Ext.refl _ _⟩
                      · simp
                      · go_simp
                        try rfl
                      apply owed_walk rfl
                      · intro w1 hw hf
                        have s0 := blk_cell (ext_heapD hw gN (fun x => x)) 0
                        go_wp2
                        exact ⟨rfl, rfl, Ext.refl _ _⟩
                      · simp
                      · go_simp
                        try rfl
                      apply owed_walk rfl
                      · intro w1 hw hf
                        have s0 := blk_cell (ext_heapD hw gN (fun x => x)) 0
                        go_wp2
                        exact ⟨rfl, rfl, Ext.refl _ _⟩
                      · simp
                      · go_simp
                        try rfl
                      apply owed_walk rfl
                      · intro w1 hw hf
                        have s0 := blk_cell (ext_heapD hw gN (fun x => x)) 0
                        go_wp2
                        exact ⟨rfl, rfl, Ext.refl _ _⟩
                      · simp
                      · go_simp
                        try rfl
                      apply owed_walk rfl
                      · intro w1 hw hf
                        have s0 := blk_cell (ext_heapD hw gN (fun x => x)) 0
                        go_wp2
                        exact ⟨rfl, rfl, Ext.refl _ _⟩
                      · simp
                      · go_simp
                        try rfl
                      apply owed_walk rfl
                      · intro w1 hw hf
                        have s0 := blk_cell (ext_heapD hw gN (fun x => x)) 0
                        go_wp2
                        exact ⟨rfl, rfl, Ext.refl _ _⟩
                      · simp
                      · go_simp
                        try rfl
                      apply owed_walk rfl
                      · intro w1 hw hf
                        have s0 := blk_cell (ext_heapD hw gN (fun x => x)) 0
                        go_wp2
                        exact ⟨rfl, rfl, Ext.refl _ _⟩
                      · simp
                      · go_simp
                        try rfl
                      apply owed_walk rfl
                      · intro w1 hw hf
                        have s0 := blk_cell (ext_heapD hw gN (fun x => x)) 0
                        go_wp2
                        exact ⟨rfl, rfl, Ext.refl _ _⟩
                      · simp
                      · go_simp
                        try rfl
                      apply owed_walk rfl
                      · intro w1 hw hf
                        have s0 := blk_cell (ext_heapD hw gN (fun x => x)) 0
                        go_wp2
                        exact ⟨rfl, rfl, Ext.refl _ _⟩
                      · simp
                      · go_simp
                        try rfl
                      apply owed_walk rfl
                      · intro w1 hw hf
                        have s0 := blk_cell (ext_heapD hw gN (fun x => x)) 0
                        obtain ⟨q0, q1, q2, q3⟩ := cells4 (ext_heapD hw gZ (fun x => x))
                        go_wp2
                        exact ⟨rfl, rfl, Ext.refl _ _⟩
                      · simp
                      · go_simp
                        try rfl
                      apply owed_walk rfl
                      · intro w1 hw hf
                        have s0 := blk_cell (ext_heapD hw gN (fun x => x)) 0
                        go_wp2
                        exact ⟨rfl, rfl, Ext.refl _ _⟩
                      · simp
                      · go_simp
                        try rfl
                      apply owed_walk rfl
                      · intro w1 hw hf
                        have s0 := blk_cell (ext_heapD hw gN (fun x => x)) 0
                        go_wp2
                        exact ⟨rfl, rfl, Ext.refl _ _⟩
                      · simp
                      · go_simp
                        try rfl
                      apply owed_walk rfl
                      · intro w1 hw hf
                        have s0 := blk_cell (ext_heapD hw gN (fun x => x)) 0
                        go_wp2_with (go_at_call 23; refine (HH.out _).mono ?_; rintro e w2 ⟨rfl, hx2⟩)
                        exact ⟨rfl, rfl, Ext.of_below hx2 _⟩
                      · simp
                      · go_simp
                        try rfl
                      apply owed_walk rfl
                      · intro w1 hw hf
                        have s0 := blk_cell (ext_heapD hw gN (fun x => x)) 0
                        obtain ⟨q0, q1, q2, q3⟩ := cells4 (ext_heapD hw gZ (fun x => x))
                        go_wp2
                        exact ⟨rfl, rfl, Ext.refl _ _⟩
                      · simp
                      · go_simp
                        try rfl
                      apply owed_walk rfl
                      · intro w1 hw hf
                        have s0 := blk_cell (ext_heapD hw gN (fun x => x)) 0
                        go_wp2
                        exact ⟨rfl, rfl, Ext.refl _ _⟩
                      · simp
                      · go_simp
                        try rfl
                      apply owed_walk rfl
                      · intro w1 hw hf
                        have s0 := blk_cell (ext_heapD hw gN (fun x => x)) 0
                        go_wp2_with (go_at_call 47; refine (HG.out _).mono ?_; rintro e w2 ⟨rfl, hx2⟩)
                        exact ⟨rfl, rfl, Ext.of_below hx2 _⟩
                      · simp
                      · go_simp
                        try rfl
                      apply owed_walk rfl
                      · intro w1 hw hf
                        have s0 := blk_cell (ext_heapD hw gN (fun x => x)) 0
                        go_wp2
                        exact ⟨rfl, rfl, Ext.refl _ _⟩
                      · simp
                      · go_simp
                        try rfl
                      apply owed_walk rfl
                      · intro w1 hw hf
                        have s0 := blk_cell (ext_heapD hw gN (fun x => x)) 0
                        go_wp2
                        exact ⟨rfl, rfl, Ext.refl _ _⟩
                      · simp
                      · go_simp
                        try rfl
                      apply owed_walk rfl
                      · intro w1 hw hf
                        have s0 := blk_cell (ext_heapD hw gN (fun x => x)) 0
                        go_wp2
                        exact ⟨rfl, rfl, Ext.refl _ _⟩
                      · simp
                      · go_simp
                        try rfl
                      apply owed_end
                      intro w12 hw _
                      refine Tail.nil rfl ?_
                      go_wp2
                      go_roundw
                      case rel => exact ⟨k2 + 1, by omega, by go_num, hy.trans hw.ofDrew⟩
                      case measure => simp [intOf]; omega
                  · rw [hnx, show ∀ b, nextV (some b) = .tuple #[.int .u8 (b : Int), .bool true] from fun _ => rfl] at HNX
                    clear hnx
                    have hjl : (j : Int) < ((preS z 256).length : Int) := by omega
                    rcases hcells3.out with h | ⟨b3, off3, hA, hcell3⟩
                    · rw [h] at hj; simp at hj
                    subst hA
                    have e3 := bytes_cell hcell3 (hx3.trans hy) hj
                    have hbl := hlz _ (List.getElem_mem hj)
                    clear hcell3
                    generalize (preS z 256)[j] = bj at *
                    have j1 : (0 : Int) ≤ (bj : Int) := by omega
                    have j2 : (bj : Int) < 256 := by omega
                    have j0 : (0 : Int) ≤ (j : Int) := by omega
                    go_wp2_with fail
                    clear e3
                    refine (HNX.out _ ((htab.ext y2).ext (hx.trans (hx3.trans hy)))).mono ?_
                    rintro e w11 ⟨rfl, b11⟩
                    have x11 := Ext.of_below b11 G0
                    replace gZ := ext_heap x11 gZ (fun x => x)
                    replace gN := ext_heap x11 gN (fun x => x)
                    replace hy := hy.trans x11
                    clear b11 x11 q0 q1 q2 q3 c13
                    rcases hn3 with h1 | ⟨h1, h2⟩ | ⟨nn, rfl, h2⟩
                    · have t1 : decide ((0 : Int) ≤ n) = false := by simp; omega
                      go_wp2_with fail
                      apply region_phi (leaves := (Leaf.val _) :: (Leaf.val _) :: (Leaf.val _) :: (Leaf.val _) :: (Leaf.val _) :: (Leaf.val _) :: (Leaf.val _) :: (Leaf.val _) :: (Leaf.val _) :: (Leaf.val _) :: (Leaf.val _) :: (Leaf.val _) :: (Leaf.val _) :: (Leaf.val _) :: (Leaf.val _) :: (Leaf.val _) :: (Leaf.val _) :: (Leaf.val _) :: (Leaf.val _) :: (Leaf.val _) :: (Leaf.val _) :: (Leaf.val _) :: (Leaf.val _) :: (Leaf.val _) :: (Leaf.val _) :: (Leaf.val _) :: ([] : List Leaf)) (k := 26) (b := #[0, 0, 3, 7, 15, 15, 63, 127, 255, 511, 1023, 2047, 4095, 8191, 16383, 32767, 65535, 65535, 196607, 524287, 65535, 65535, 4194303, 8388607, 16777215, 33554431]) (ms := []) (E := Ext G0) mixed (by kernel_rfl) rfl (by kernel_rfl) rfl
                      apply owed_walk rfl
                      · intro w1 hw hf
                        have s0 := blk_cell (ext_heapD hw gN (fun x => x)) 0
                        go_wp2
                        exact ⟨rfl, rfl, Ext.refl _ _⟩
                      · simp
                      · go_simp
                        try rfl
                      apply owed_walk rfl
                      · intro w1 hw hf
                        have s0 := blk_cell (ext_heapD hw gN (fun x => x)) 0
                        go_wp2
                        exact ⟨rfl, rfl, Ext.refl _ _⟩
                      · simp
                      · go_simp
                        try rfl
                      apply owed_walk rfl
                      · intro w1 hw hf
                        have s0 := blk_cell (ext_heapD hw gN (fun x => x)) 0
                        go_wp2
                        exact ⟨rfl, rfl, Ext.refl _ _⟩
                      · simp
                      · go_simp
                        try rfl
                      apply owed_walk rfl
                      · intro w1 hw hf
                        have s0 := blk_cell (ext_heapD hw gN (fun x => x)) 0
                        go_wp2
                        exact ⟨rfl, rfl, Ext.refl _ _⟩
                      · simp
                      · go_simp
                        try rfl
                      apply owed_walk rfl
                      · intro w1 hw hf
                        have s0 := blk_cell (ext_heapD hw gN (fun x => x)) 0
                        go_wp2
                        exact ⟨rfl, rfl, Ext.refl _ _⟩
                      · simp
                      · go_simp
                        try rfl
                      apply owed_walk rfl
                      · intro w1 hw hf
                        have s0 := blk_cell (ext_heapD hw gN (fun x => x)) 0
                        go_wp2
                        exact ⟨rfl, rfl, Ext.refl _ _⟩
                      · simp
                      · go_simp
                        try rfl
                      apply owed_walk rfl
                      · intro w1 hw hf
                        have s0 := blk_cell (ext_heapD hw gN (fun x => x)) 0
                        go_wp2
                        exact ⟨rfl, rfl, Ext.refl _ _⟩
                      · simp
                      · go_simp
                        try rfl
                      apply owed_walk rfl
                      · intro w1 hw hf
                        have s0 := blk_cell (ext_heapD hw gN (fun x => x)) 0
                        go_wp2
                        exact ⟨rfl, rfl, Ext.refl _ _⟩
                      · simp
                      · go_simp
                        try rfl
                      apply owed_walk rfl
                      · intro w1 hw hf
                        have s0 := blk_cell (ext_heapD hw gN (fun x => x)) 0
                        go_wp2
                        exact ⟨rfl, rfl, Ext.refl _ _⟩
                      · simp
                      · go_simp
                        try rfl
                      apply owed_walk rfl
                      · intro w1 hw hf
                        have s0 := blk_cell (ext_heapD hw gN (fun x => x)) 0
                        go_wp2
                        exact ⟨rfl, rfl, Ext.refl _ _⟩
                      · simp
                      · go_simp
                        try rfl
                      apply owed_walk rfl
                      · intro w1 hw hf
                        have s0 := blk_cell (ext_heapD hw gN (fun x => x)) 0
                        go_wp2
                        exact ⟨rfl, rfl, Ext.refl _ _⟩
                      · simp
                      · go_simp
                        try rfl
                      apply owed_walk rfl
                      · intro w1 hw hf
                        have s0 := blk_cell (ext_heapD hw gN (fun x => x)) 0
                        go_wp2
                        exact ⟨rfl, rfl, Ext.refl _ _⟩
                      · simp
                      · go_simp
                        try rfl
                      apply owed_walk rfl
                      · intro w1 hw hf
                        have s0 := blk_cell (ext_heapD hw gN (fun x => x)) 0
                        go_wp2
                        exact ⟨rfl, rfl, Ext.refl _ _⟩
                      · simp
                      · go_simp
                        try rfl
                      apply owed_walk rfl
                      · intro w1 hw hf
                        have s0 := blk_cell (ext_heapD hw gN (fun x => x)) 0
                        go_wp2
                        exact ⟨rfl, rfl, Ext.refl _ _⟩
                      · simp
                      · go_simp
                        try rfl
                      apply owed_walk rfl
                      · intro w1 hw hf
                        have s0 := blk_cell (ext_heapD hw gN (fun x => x)) 0
                        go_wp2
                        exact ⟨rfl, rfl, Ext.refl _ _⟩
                      · simp
                      · go_simp
                        try rfl
                      apply owed_walk rfl
                      · intro w1 hw hf
                        have s0 := blk_cell (ext_heapD hw gN (fun x => x)) 0
                        go_wp2
                        exact ⟨rfl, rfl, Ext.refl _ _⟩
                      · simp
                      · go_simp
                        try rfl
                      apply owed_walk rfl
                      · intro w1 hw hf
                        have s0 := blk_cell (ext_heapD hw gN (fun x => x)) 0
                        obtain ⟨q0, q1, q2, q3⟩ := cells4 (ext_heapD hw gZ (fun x => x))
                        go_wp2
                        exact ⟨rfl, rfl, Ext.refl _ _⟩
                      · simp
                      · go_simp
                        try rfl
                      apply owed_walk rfl
                      · intro w1 hw hf
                        have s0 := blk_cell (ext_heapD hw gN (fun x => x)) 0
                        go_wp2
                        exact ⟨rfl, rfl, Ext.refl _ _⟩
                      · simp
                      · go_simp
                        try rfl
                      apply owed_walk rfl
                      · intro w1 hw hf
                        have s0 := blk_cell (ext_heapD hw gN (fun x => x)) 0
                        go_wp2
                        exact ⟨rfl, rfl, Ext.refl _ _⟩
                      · simp
                      · go_simp
                        try rfl
                      apply owed_walk rfl
                      · intro w1 hw hf
                        have s0 := blk_cell (ext_heapD hw gN (fun x => x)) 0
                        go_wp2
                        exact ⟨rfl, rfl, Ext.refl _ _⟩
                      · simp
                      · go_simp
                        try rfl
                      apply owed_walk rfl
                      · intro w1 hw hf
                        have s0 := blk_cell (ext_heapD hw gN (fun x => x)) 0
                        obtain ⟨q0, q1, q2, q3⟩ := cells4 (ext_heapD hw gZ (fun x => x))
                        go_wp2
                        exact ⟨rfl, rfl, Ext.refl _ _⟩
                      · simp
                      · go_simp
                        try rfl
                      apply owed_walk rfl
                      · intro w1 hw hf
                        have s0 := blk_cell (ext_heapD hw gN (fun x => x)) 0
                        go_wp2
                        exact ⟨rfl, rfl, Ext.refl _ _⟩
                      · simp
                      · go_simp
                        try rfl
                      apply owed_walk rfl
                      · intro w1 hw hf
                        have s0 := blk_cell (ext_heapD hw gN (fun x => x)) 0
                        go_wp2
                        exact ⟨rfl, rfl, Ext.refl _ _⟩
                      · simp
                      · go_simp
                        try rfl
                      apply owed_walk rfl
                      · intro w1 hw hf
                        have s0 := blk_cell (ext_heapD hw gN (fun x => x)) 0
                        go_wp2
                        exact ⟨rfl, rfl, Ext.refl _ _⟩
                      · simp
                      · go_simp
                        try rfl
                      apply owed_walk rfl
                      · intro w1 hw hf
                        have s0 := blk_cell (ext_heapD hw gN (fun x => x)) 0
                        go_wp2
                        exact ⟨rfl, rfl, Ext.refl _ _⟩
                      · simp
                      · go_simp
                        try rfl
                      apply owed_walk rfl
                      · intro w1 hw hf
                        have s0 := blk_cell (ext_heapD hw gN (fun x => x)) 0
                        go_wp2
                        exact ⟨rfl, rfl, Ext.refl _ _⟩
                      · simp
                      · go_simp
                        try rfl
                      apply owed_end
                      intro w12 hw _
                      refine Tail.nil rfl ?_
                      go_wp2
                      go_roundw
                      case rel => exact ⟨k2 + 1, by omega, by go_num, hy.trans hw.ofDrew⟩
                      case measure => simp [intOf]; omega
                    · have t1 : decide ((0 : Int) ≤ n) = true := by simp; omega
                      have t2 : decide (n < 256) = false := by simp; omega
                      go_wp2_with fail
                      apply region_phi (leaves := (Leaf.val _) :: (Leaf.val _) :: (Leaf.val _) :: (Leaf.val _) :: (Leaf.val _) :: (Leaf.val _) :: (Leaf.val _) :: (Leaf.val _) :: (Leaf.val _) :: (Leaf.val _) :: (Leaf.val _) :: (Leaf.val _) :: (Leaf.val _) :: (Leaf.val _) :: (Leaf.val _) :: (Leaf.val _) :: (Leaf.val _) :: (Leaf.val _) :: (Leaf.val _) :: (Leaf.val _) :: (Leaf.val _) :: (Leaf.val _) :: (Leaf.val _) :: (Leaf.val _) :: (Leaf.val _) :: (Leaf.val _) :: ([] : List Leaf)) (k := 26) (b := #[0, 0, 3, 7, 15, 15, 63, 127, 255, 511, 1023, 2047, 4095, 8191, 16383, 32767, 65535, 65535, 196607, 524287, 65535, 65535, 4194303, 8388607, 16777215, 33554431]) (ms := []) (E := Ext G0) mixed (by kernel_rfl) rfl (by kernel_rfl) rfl
                      apply owed_walk rfl
                      · intro w1 hw hf
                        have s0 := blk_cell (ext_heapD hw gN (fun x => x)) 0
                        go_wp2
                        exact ⟨rfl, rfl, Ext.refl _ _⟩
                      · simp
                      · go_simp
                        try rfl
                      apply owed_walk rfl
                      · intro w1 hw hf
                        have s0 := blk_cell (ext_heapD hw gN (fun x => x)) 0
                        go_wp2
                        exact ⟨rfl, rfl, Ext.refl _ _⟩
                      · simp
                      · go_simp
                        try rfl
                      apply owed_walk rfl
                      · intro w1 hw hf
                        have s0 := blk_cell (ext_heapD hw gN (fun x => x)) 0
                        go_wp2
                        exact ⟨rfl, rfl, Ext.refl _ _⟩
                      · simp
                      · go_simp
                        try rfl
                      apply owed_walk rfl
                      · intro w1 hw hf
                        have s0 := blk_cell (ext_heapD hw gN (fun x => x)) 0
                        go_wp2
                        exact ⟨rfl, rfl, Ext.refl _ _⟩
                      · simp
                      · go_simp
                        try rfl
                      apply owed_walk rfl
                      · intro w1 hw hf
                        have s0 := blk_cell (ext_heapD hw gN (fun x => x)) 0
                        go_wp2
                        exact ⟨rfl, rfl, Ext.refl _ _⟩
                      · simp
                      · go_simp
                        try rfl
                      apply owed_walk rfl
                      · intro w1 hw hf
                        have s0 := blk_cell (ext_heapD hw gN (fun x => x)) 0
                        go_wp2
                        exact ⟨rfl, rfl, Ext.refl _ _⟩
                      · simp
                      · go_simp
                        try rfl
                      apply owed_walk rfl
                      · intro w1 hw hf
                        have s0 := blk_cell (ext_heapD hw gN (fun x => x)) 0
                        go_wp2
                        exact ⟨rfl, rfl, Ext.refl _ _⟩
                      · simp
                      · go_simp
                        try rfl
                      apply owed_walk rfl
                      · intro w1 hw hf
                        have s0 := blk_cell (ext_heapD hw gN (fun x => x)) 0
                        go_wp2
                        exact ⟨rfl, rfl, Ext.refl _ _⟩
                      · simp
                      · go_simp
                        try rfl
                      apply owed_walk rfl
                      · intro w1 hw hf
                        have s0 := blk_cell (ext_heapD hw gN (fun x => x)) 0
                        go_wp2
                        exact ⟨rfl, rfl, Ext.refl _ _⟩
                      · simp
                      · go_simp
                        try rfl
                      apply owed_walk rfl
                      · intro w1 hw hf
                        have s0 := blk_cell (ext_heapD hw gN (fun x => x)) 0
                        go_wp2
                        exact ⟨rfl, rfl, Ext.refl _ _⟩
                      · simp
                      · go_simp
                        try rfl
                      apply owed_walk rfl
                      · intro w1 hw hf
                        have s0 := blk_cell (ext_heapD hw gN (fun x => x)) 0
                        go_wp2
                        exact ⟨rfl, rfl, Ext.refl _ _⟩
                      · simp
                      · go_simp
                        try rfl
                      apply owed_walk rfl
                      · intro w1 hw hf
                        have s0 := blk_cell (ext_heapD hw gN (fun x => x)) 0
                        go_wp2
                        exact ⟨rfl, rfl, Ext.refl _ _⟩
                      · simp
                      · go_simp
                        try rfl
                      apply owed_walk rfl
                      · intro w1 hw hf
                        have s0 := blk_cell (ext_heapD hw gN (fun x => x)) 0
                        go_wp2
                        exact ⟨rfl, rfl, Ext.refl _ _⟩
                      · simp
                      · go_simp
                        try rfl
                      apply owed_walk rfl
                      · intro w1 hw hf
                        have s0 := blk_cell (ext_heapD hw gN (fun x => x)) 0
                        go_wp2
                        exact ⟨rfl, rfl, Ext.refl _ _⟩
                      · simp
                      · go_simp
                        try rfl
                      apply owed_walk rfl
                      · intro w1 hw hf
                        have s0 := blk_cell (ext_heapD hw gN (fun x => x)) 0
                        go_wp2
                        exact ⟨rfl, rfl, Ext.refl _ _⟩
                      · simp
                      · go_simp
                        try rfl
                      apply owed_walk rfl
                      · intro w1 hw hf
                        have s0 := blk_cell (ext_heapD hw gN (fun x => x)) 0
                        go_wp2
                        exact ⟨rfl, rfl, Ext.refl _ _⟩
                      · simp
                      · go_simp
                        try rfl
                      apply owed_walk rfl
                      · intro w1 hw hf
                        have s0 := blk_cell (ext_heapD hw gN (fun x => x)) 0
                        obtain ⟨q0, q1, q2, q3⟩ := cells4 (ext_heapD hw gZ (fun x => x))
                        go_wp2
                        exact ⟨rfl, rfl, Ext.refl _ _⟩
                      · simp
                      · go_simp
                        try rfl
                      apply owed_walk rfl
                      · intro w1 hw hf
                        have s0 := blk_cell (ext_heapD hw gN (fun x => x)) 0
                        go_wp2
                        exact ⟨rfl, rfl, Ext.refl _ _⟩
                      · simp
                      · go_simp
                        try rfl
                      apply owed_walk rfl
                      · intro w1 hw hf
                        have s0 := blk_cell (ext_heapD hw gN (fun x => x)) 0
                        go_wp2
                        exact ⟨rfl, rfl, Ext.refl _ _⟩
                      · simp
                      · go_simp
                        try rfl
                      apply owed_walk rfl
                      · intro w1 hw hf
                        have s0 := blk_cell (ext_heapD hw gN (fun x => x)) 0
                        go_wp2
                        exact ⟨rfl, rfl, Ext.refl _ _⟩
                      · simp
                      · go_simp
                        try rfl
                      apply owed_walk rfl
                      · intro w1 hw hf
                        have s0 := blk_cell (ext_heapD hw gN (fun x => x)) 0
                        obtain ⟨q0, q1, q2, q3⟩ := cells4 (ext_heapD hw gZ (fun x => x))
                        go_wp2
                        exact ⟨rfl, rfl, Ext.refl _ _⟩
                      · simp
                      · go_simp
                        try rfl
                      apply owed_walk rfl
                      · intro w1 hw hf
                        have s0 := blk_cell (ext_heapD hw gN (fun x => x)) 0
                        go_wp2
                        exact ⟨rfl, rfl, Ext.refl _ _⟩
                      · simp
                      · go_simp
                        try rfl
                      apply owed_walk rfl
                      · intro w1 hw hf
                        have s0 := blk_cell (ext_heapD hw gN (fun x => x)) 0
                        go_wp2
                        exact ⟨rfl, rfl, Ext.refl _ _⟩
                      · simp
                      · go_simp
                        try rfl
                      apply owed_walk rfl
                      · intro w1 hw hf
                        have s0 := blk_cell (ext_heapD hw gN (fun x => x)) 0
                        go_wp2
                        exact ⟨rfl, rfl, Ext.refl _ _⟩
                      · simp
                      · go_simp
                        try rfl
                      apply owed_walk rfl
                      · intro w1 hw hf
                        have s0 := blk_cell (ext_heapD hw gN (fun x => x)) 0
                        go_wp2
                        exact ⟨rfl, rfl, Ext.refl _ _⟩
                      · simp
                      · go_simp
                        try rfl
                      apply owed_walk rfl
                      · intro w1 hw hf
                        have s0 := blk_cell (ext_heapD hw gN (fun x => x)) 0
                        go_wp2
                        exact ⟨rfl, rfl, Ext.refl _ _⟩
                      · simp
                      · go_simp
                        try rfl
                      apply owed_end
                      intro w12 hw _
                      refine Tail.nil rfl ?_
                      go_wp2
                      go_roundw
                      case rel => exact ⟨k2 + 1, by omega, by go_num, hy.trans hw.ofDrew⟩
                      case measure => simp [intOf]; omega
                    · have t1 : decide ((0 : Int) ≤ (nn : Int)) = true := by simp
                      have t2 : decide ((nn : Int) < 256) = true := by simp; omega
                      have t3 : (0 : Int) ≤ (nn : Int) := by omega
                      have t4 : (nn : Int) < 256 := by omega
                      have HH := Lib.hid (has_any z nn · h2)
                      have HG := Lib.hid (rhas_any z nn · h2)
                      generalize z.getLsbD nn = bit at *
                      go_wp2_with fail
                      apply region_phi (leaves := (Leaf.val _) :: (Leaf.val _) :: (Leaf.val _) :: (Leaf.val _) :: (Leaf.val _) :: (Leaf.val _) :: (Leaf.val _) :: (Leaf.val _) :: (Leaf.val _) :: (Leaf.val _) :: (Leaf.val _) :: (Leaf.val _) :: (Leaf.val _) :: (Leaf.val _) :: (Leaf.val _) :: (Leaf.val _) :: (Leaf.val _) :: (Leaf.val _) :: (Leaf.val _) :: (Leaf.val _) :: (Leaf.val _) :: (Leaf.val _) :: (Leaf.val _) :: (Leaf.val _) :: (Leaf.val _) :: (Leaf.val _) :: ([] : List Leaf)) (k := 26) (b := #[0, 0, 3, 7, 15, 15, 63, 127, 255, 511, 1023, 2047, 4095, 8191, 16383, 32767, 65535, 65535, 196607, 524287, 65535, 65535, 4194303, 8388607, 16777215, 33554431]) (ms := []) (E := Ext G0) mixed (by kernel_rfl) rfl (by kernel_rfl) rfl
                      apply owed_walk rfl
                      · intro w1 hw hf
                        have s0 := blk_cell (ext_heapD hw gN (fun x => x)) 0
                        go_wp2
                        exact ⟨rfl, rfl, Ext.refl _ _⟩
                      · simp
                      · go_simp
                        try rfl
                      apply owed_walk rfl
                      · intro w1 hw hf
                        have s0 := blk_cell (ext_heapD hw gN (fun x => x)) 0
                        go_wp2
                        exact ⟨rfl, rfl, Ext.refl _ _⟩
                      · simp
                      · go_simp
                        try rfl
                      apply owed_walk rfl
                      · intro w1 hw hf
                        have s0 := blk_cell (ext_heapD hw gN (fun x => x)) 0
                        go_wp2
                        exact ⟨rfl, rfl, Ext.refl _ _⟩
                      · simp
                      · go_simp
                        try rfl
                      apply owed_walk rfl
                      · intro w1 hw hf
                        have s0 := blk_cell (ext_heapD hw gN (fun x => x)) 0
                        go_wp2
                        exact ⟨rfl, rfl, Ext.refl _ _⟩
                      · simp
                      · go_simp
                        try rfl
                      apply owed_walk rfl
                      · intro w1 hw hf
                        have s0 := blk_cell (ext_heapD hw gN (fun x => x)) 0
                        go_wp2
                        exact ⟨rfl, rfl, Ext.refl _ _⟩
                      · simp
                      · go_simp
                        try rfl
                      apply owed_walk rfl
                      · intro w1 hw hf
                        have s0 := blk_cell (ext_heapD hw gN (fun x => x)) 0
                        go_wp2
                        exact ⟨rfl, rfl, Ext.refl _ _⟩
                      · simp
                      · go_simp
                        try rfl
                      apply owed_walk rfl
                      · intro w1 hw hf
                        have s0 := blk_cell (ext_heapD hw gN (fun x => x)) 0
                        go_wp2
                        exact ⟨rfl, rfl, Ext.refl _ _⟩
                      · simp
                      · go_simp
                        try rfl
                      apply owed_walk rfl
                      · intro w1 hw hf
                        have s0 := blk_cell (ext_heapD hw gN (fun x => x)) 0
                        go_wp2
                        exact ⟨rfl, rfl, Ext.refl _ _⟩
                      · simp
                      · go_simp
                        try rfl
                      apply owed_walk rfl
                      · intro w1 hw hf
                        have s0 := blk_cell (ext_heapD hw gN (fun x => x)) 0
                        go_wp2
                        exact ⟨rfl, rfl, Ext.refl _ _⟩
                      · simp
                      · go_simp
                        try rfl
                      apply owed_walk rfl
                      · intro w1 hw hf
                        have s0 := blk_cell (ext_heapD hw gN (fun x => x)) 0
                        go_wp2
                        exact ⟨rfl, rfl, Ext.refl _ _⟩
                      · simp
                      · go_simp
                        try rfl
                      apply owed_walk rfl
                      · intro w1 hw hf
                        have s0 := blk_cell (ext_heapD hw gN (fun x => x)) 0
                        go_wp2
                        exact ⟨rfl, rfl, Ext.refl _ _⟩
                      · simp
                      · go_simp
                        try rfl
                      apply owed_walk rfl
                      · intro w1 hw hf
                        have s0 := blk_cell (ext_heapD hw gN (fun x => x)) 0
                        go_wp2
                        exact ⟨rfl, rfl, Ext.refl _ _⟩
                      · simp
                      · go_simp
                        try rfl
                      apply owed_walk rfl
                      · intro w1 hw hf
                        have s0 := blk_cell (ext_heapD hw gN (fun x => x)) 0
                        go_wp2
                        exact ⟨rfl, rfl, Ext.refl _ _⟩
                      · simp
                      · go_simp
                        try rfl
                      apply owed_walk rfl
                      · intro w1 hw hf
                        have s0 := blk_cell (ext_heapD hw gN (fun x => x)) 0
                        go_wp2
                        exact ⟨rfl, rfl, Ext.refl _ _⟩
                      · simp
                      · go_simp
                        try rfl
                      apply owed_walk rfl
                      · intro w1 hw hf
                        have s0 := blk_cell (ext_heapD hw gN (fun x => x)) 0
                        go_wp2
                        exact ⟨rfl, rfl, Ext.refl _ _⟩
                      · simp
                      · go_simp
                        try rfl
                      apply owed_walk rfl
                      · intro w1 hw hf
                        have s0 := blk_cell (ext_heapD hw gN (fun x => x)) 0
                        go_wp2
                        exact ⟨rfl, rfl, Ext.refl _ _⟩
                      · simp
                      · go_simp
                        try rfl
                      apply owed_walk rfl
                      · intro w1 hw hf
                        have s0 := blk_cell (ext_heapD hw gN (fun x => x)) 0
                        obtain ⟨q0, q1, q2, q3⟩ := cells4 (ext_heapD hw gZ (fun x => x))
                        go_wp2
                        exact ⟨rfl, rfl, Ext.refl _ _⟩
                      · simp
                      · go_simp
                        try rfl
                      apply owed_walk rfl
                      · intro w1 hw hf
                        have s0 := blk_cell (ext_heapD hw gN (fun x => x)) 0
                        go_wp2
                        exact ⟨rfl, rfl, Ext.refl _ _⟩
                      · simp
                      · go_simp
                        try rfl
                      apply owed_walk rfl
                      · intro w1 hw hf
                        have s0 := blk_cell (ext_heapD hw gN (fun x => x)) 0
                        go_wp2
                        exact ⟨rfl, rfl, Ext.refl _ _⟩
                      · simp
                      · go_simp
                        try rfl
                      apply owed_walk rfl
                      · intro w1 hw hf
                        have s0 := blk_cell (ext_heapD hw gN (fun x => x)) 0
                        go_wp2_with (go_at_call 23; refine (HH.out _).mono ?_; rintro e w2 ⟨rfl, hx2⟩)
                        exact ⟨rfl, rfl, Ext.of_below hx2 _⟩
                      · simp
                      · go_simp
                        try rfl
                      apply owed_walk rfl
                      · intro w1 hw hf
                        have s0 := blk_cell (ext_heapD hw gN (fun x => x)) 0
                        obtain ⟨q0, q1, q2, q3⟩ := cells4 (ext_heapD hw gZ (fun x => x))
                        go_wp2
                        exact ⟨rfl, rfl, Ext.refl _ _⟩
                      · simp
                      · go_simp
                        try rfl
                      apply owed_walk rfl
                      · intro w1 hw hf
                        have s0 := blk_cell (ext_heapD hw gN (fun x => x)) 0
                        go_wp2
                        exact ⟨rfl, rfl, Ext.refl _ _⟩
                      · simp
                      · go_simp
                        try rfl
                      apply owed_walk rfl
                      · intro w1 hw hf
                        have s0 := blk_cell (ext_heapD hw gN (fun x => x)) 0
                        go_wp2_with (go_at_call 47; refine (HG.out _).mono ?_; rintro e w2 ⟨rfl, hx2⟩)
                        exact ⟨rfl, rfl, Ext.of_below hx2 _⟩
                      · simp
                      · go_simp
                        try rfl
                      apply owed_walk rfl
                      · intro w1 hw hf
                        have s0 := blk_cell (ext_heapD hw gN (fun x => x)) 0
                        go_wp2
                        exact ⟨rfl, rfl, Ext.refl _ _⟩
                      · simp
                      · go_simp
                        try rfl
                      apply owed_walk rfl
                      · intro w1 hw hf
                        have s0 := blk_cell (ext_heapD hw gN (fun x => x)) 0
                        go_wp2
                        exact ⟨rfl, rfl, Ext.refl _ _⟩
                      · simp
                      · go_simp
                        try rfl
                      apply owed_walk rfl
                      · intro w1 hw hf
                        have s0 := blk_cell (ext_heapD hw gN (fun x => x)) 0
                        go_wp2
                        exact ⟨rfl, rfl, Ext.refl _ _⟩
                      · simp
                      · go_simp
                        try rfl
                      apply owed_end
                      intro w12 hw _
                      refine Tail.nil rfl ?_
                      go_wp2
                      go_roundw
                      case rel => exact ⟨k2 + 1, by omega, by go_num, hy.trans hw.ofDrew⟩
                      case measure => simp [intOf]; omega
                · obtain rfl : k2 = q + 2 := by omega
                  have i2 : ¬ ((q : Int) + 2) < (q : Int) + 1 + 1 := by omega
                  go_wp2
                  go_roundw
                  case rel => exact ⟨k + 1, by omega, by omega, by go_num, hx.trans (hx3.trans hy)⟩
                  case measure => simp [intOf]; omega
          · obtain rfl : k = l.length := by omega
            go_wp2
            go_ret
            exact ⟨rfl, (y2.trans hx).below⟩

end Go.Proofs.YtejialnbelleeaaDoor
