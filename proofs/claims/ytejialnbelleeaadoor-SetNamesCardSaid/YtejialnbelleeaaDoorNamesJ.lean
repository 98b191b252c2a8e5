/-
  SetNames is true: the walk.
-/
import Derived.Test.YtejialnbelleeaaDoorRefJ
import Derived.Test.YtejialnbelleeaaDoorRefF
import Derived.Test.YtejialnbelleeaaDoorSetR
namespace Go.Proofs.YtejialnbelleeaaDoor
open Go Go.RowKit

def litsN : List ByteArray := [⟨#[97, 108, 112, 104, 97]⟩, ⟨#[117, 112, 112, 101, 114]⟩, ⟨#[108, 111, 119, 101, 114]⟩, ⟨#[100, 105, 103, 105, 116]⟩, ⟨#[97, 108, 110, 117, 109]⟩, ⟨#[120, 100, 105, 103, 105, 116]⟩, ⟨#[98, 108, 97, 110, 107]⟩, ⟨#[115, 112, 97, 99, 101]⟩, ⟨#[99, 110, 116, 114, 108]⟩, ⟨#[103, 114, 97, 112, 104]⟩, ⟨#[112, 114, 105, 110, 116]⟩, ⟨#[112, 117, 110, 99, 116]⟩]
theorem lits_tab (n : ByteArray) (h : n ∈ litsN) : (tabN n).isSome = true := by
  simp only [litsN, List.mem_cons, List.not_mem_nil, or_false] at h
  rcases h with rfl | rfl | rfl | rfl | rfl | rfl | rfl | rfl | rfl | rfl | rfl | rfl <;> decide +kernel
theorem tab_not_empty (n : ByteArray) (s : Bs) (h : tabN n = some s) : s ≠ 0#256 := by
  unfold tabN tabT at h
  cases hf : (nameT (orL (spanS 65 90) [spanS 97 122]) (listS [9, 32]) (orL (spanS 0 31) [listS [127]]) (spanS 48 57) (spanS 33 126) (spanS 97 122) (orL (orL (spanS 65 90) [spanS 97 122]) [spanS 48 57]) (spanS 32 126)
    (spanS 33 126 &&& ~~~(orL (orL (spanS 65 90) [spanS 97 122]) [spanS 48 57])) (orL (spanS 9 13) [listS [32]]) (spanS 65 90) (orL (spanS 48 57) [spanS 65 70, spanS 97 102])).find? (fun p => p.1 == n.data.toList) with
  | none => rw [hf] at h; cases h
  | some p =>
    rw [hf] at h
    have h1 := List.mem_of_find?_eq_some hf
    have h2 : p.2 = s := by injection h
    rw [← h2]
    clear hf h h2
    simp only [nameT, List.mem_cons, List.not_mem_nil, or_false] at h1
    rcases h1 with rfl | rfl | rfl | rfl | rfl | rfl | rfl | rfl | rfl | rfl | rfl | rfl <;> decide +kernel
/-- Both tell the same of a name. -/
theorem names_both (n : ByteArray) : (∃ S, namedV n = .tuple #[setV S, .int .i64 0] ∧ ofP (refN n) = S ∧ S ≠ 0#256 ∧ (tabN n).isSome = true) ∨ (namedV n = .tuple #[setV 0#256, .int .i64 110] ∧ ofP (refN n) = 0#256 ∧ (tabN n).isSome = false) := by
  cases h : tabN n with
  | some s =>
    refine .inl ⟨s, by unfold namedV; rw [h], ?_, tab_not_empty n s h, rfl⟩
    have : refN n = fun i => s.getLsbD i := by funext i; unfold refN; rw [h]
    rw [this, ofP_self]
  | none =>
    refine .inr ⟨by unfold namedV; rw [h], ?_, rfl⟩
    have : refN n = fun _ => false := by funext i; unfold refN; rw [h]
    rw [this, ofP_false]
theorem cells_lit_new (w : World) (cs : List Value) (t : TypeId) : ∀ j u, cs[j]? = some u → (w.alloc (.cells cs.toArray t)).cell? ((⟨w.heap.size, 0, none⟩ : Addr).add j) = some u := by
  intro j u h
  have := blk_cell (heap_new w (.cells cs.toArray t)) j
  rw [show (⟨w.heap.size, 0, none⟩ : Addr).add j = ⟨w.heap.size, j, none⟩ by simp [Addr.add]; intro e; exact e.symm, this]
  rw [← h]
  exact List.getElem?_toArray

set_option maxRecDepth 100000 in
set_option maxHeartbeats 16000000 in
theorem names_walk (l0 : List ByteArray) (A : Option Addr) (n c : Nat) (w : World) (htab : TabOk w) (hl0 : SlAt 1 strL w (.slice A n c) l0) :
    Calls Tryd.prog 7 #[.slice A n c] w fun e w' => e = .returned (.bool true) ∧ Below w.heap.size w w' := by
  obtain ⟨i0, hi, hz0, hz1, hz2⟩ := info_parts info_ofStr
  obtain ⟨hn, hnc, hnm⟩ := hl0.length
  have hslice : ∃ m, SlAt 1 strL w (.slice A m c) (l0.take 12) ∧ min (n : Int) 12 = (m : Int) ∧ m ≤ n ∧ m ≤ 12 ∧ (l0.take 12).length = m := by
    have := hl0.take 12
    by_cases h : n ≤ 12
    · rw [Nat.min_eq_left h] at this
      exact ⟨n, this, by omega, Nat.le_refl _, h, by rw [List.length_take]; omega⟩
    · rw [Nat.min_eq_right (by omega)] at this
      exact ⟨12, this, by omega, by omega, Nat.le_refl _, by rw [List.length_take]; omega⟩
  obtain ⟨m, hsl, hmin, hmn, hm12, hxm⟩ := hslice
  clear hl0 hn
  generalize l0.take 12 = x at *
  replace hsl := Lib.hid hsl
  replace hxm := Lib.hid hxm
  go_enter Tryd.func7, Tryd.ntmps7
  go_wp2_with fail
  refine (wakes_any _ htab).mono ?_
  rintro e w1 ⟨rfl, b1⟩
  have y1 := Ext.of_below b1 G0
  clear b1
  go_wp2_with fail
  refine (cloneStr_any x _ _ (hsl.out.ext y1) (by rw [hxm.out]; omega)).mono ?_
  rintro e w2 ⟨v', rfl, hown, b2⟩
  have y2 := y1.trans (Ext.of_below b2 G0)
  have hs12 := Nat.le_trans y1.size b2.size
  have hs11 := y1.size
  have hs22 := b2.size
  clear b2
  rw [hxm.out] at hown
  go_wp2_with (at_builtin; refine wpList_append_own _ rfl _ _ 51 rfl w1.heap.size 9 i0 _ 1 16 Tryd.underlying51 hi hz0 hz1 hz2 rfl (by decide) _ _ _ rfl (hown.alloc _) ⟨w2.heap.size, 0, none⟩ 12 12 (litsN.flatMap strL) rfl rfl (cells_lit_new _ _ _) (by intro u hu; simp only [litsN, strL, List.flatMap_cons, List.flatMap_nil, List.append_nil, List.cons_append, List.nil_append, List.mem_cons, List.not_mem_nil, or_false] at hu; rcases hu with rfl | rfl | rfl | rfl | rfl | rfl | rfl | rfl | rfl | rfl | rfl | rfl <;> rfl) (by simp only [maxLen]; omega) (by omega) (by simp; omega) ?_; intro v2 w3 hown2 hgrow _; obtain ⟨g2, cap2, rfl⟩ := ownsRow_succ hown2)
  have hx3 := (y2.below.alloc (by omega) _).grown hgrow (by simp; omega) (fun k hk => by have := (hown.lt _ hk).1; omega)
  have y3 := Ext.of_below hx3 G0
  have hLL : (x ++ litsN).length = m + 12 := by rw [List.length_append, hxm.out]; rfl
  have hv := SlAt.of_owns (sz := 1) (enc := strL) (l := x ++ litsN) (fun _ _ => rfl) (by rw [hLL, List.flatMap_append]; exact hown2) (by omega)
  have hmem : ∀ k (h : k < (x ++ litsN).length), 12 ≤ k → (tabN (x ++ litsN)[k]).isSome = true := fun k h hk => by
    rw [List.getElem_append_right (by rw [hxm.out]; omega)]
    exact lits_tab _ (List.getElem_mem _)
  clear hx3 hgrow hown hown2 y1 y2
  generalize x ++ litsN = LL at *
  obtain ⟨A', c', he, ⟨hlc, hlm⟩, hcells⟩ := hv
  injection he with e1 e2 e3
  subst e1 e3
  clear e2
  have HM := Lib.hid hmem
  have HL := Lib.hid hLL
  replace hcells := Lib.hid hcells
  clear hmem hLL
  go_loopw [19] (fun i wr => ∃ k : Nat, k ≤ m + 12 ∧ i = .int .i64 (k : Int) ∧ Ext G0 w3 wr) (fun i _ => m + 12 - (intOf i).toNat)
  case atStart => exact ⟨0, Nat.zero_le _, rfl, Ext.refl _ _⟩
  case round =>
    obtain ⟨k, hk, rfl, hx⟩ := hrel
    by_cases hlt : k < m + 12
    · have i1 : (k : Int) < (m : Int) + 11 + 1 := by omega
      have hkl : k < LL.length := by rw [HL.out]; exact hlt
      rcases hcells.out with h | ⟨b, off, hA, hcell⟩
      · rw [h] at hkl; simp at hkl
      injection hA with hA
      injection hA with hA1 hA2
      subst hA1 hA2
      have d0 : wr.cell? ⟨g2, 0 + k * 1 + 0, none⟩ = some (.string LL[k]) := cell_ext hx (hcell k LL[k] (by simp [hkl]) 0 _ rfl)
      rw [show 0 + k * 1 + 0 = k by omega] at d0
      have hmk := HM.out k hkl
      clear hcell
      generalize LL[k] = nm at *
      rcases names_both nm with ⟨S, hF, hQ, hS0, hsome⟩ | ⟨hF, hQ, hnone⟩
      · have HF := Lib.hid (fun w => Named_any nm w)
        have HQ := Lib.hid (fun w => rNamed_any nm w)
        rw [hF] at HF
        rw [hQ] at HQ
        have es := equalIn_set S S
        rw [decide_eq_true rfl] at es
        have ez0 := equalIn_set S 0#256
        rw [decide_eq_false hS0] at ez0
        have ez : ∀ w, (Op.equalIn 10000 24 (setV S) (.agg #[.int .u64 0, .int .u64 0, .int .u64 0, .int .u64 0])).run Tryd.prog w = .ok false w := ez0
        clear ez0 hF hQ hS0 hsome hmk
        by_cases h12 : 12 ≤ k
        · have t12 : decide ((12 : Int) ≤ (k : Int)) = true := by simp; omega
          go_wp2_with fail
          clear d0
          refine (HF.out _).mono ?_
          rintro e w4 ⟨rfl, b4⟩
          have x4 := hx.trans (Ext.of_below b4 G0)
          clear b4
          go_wp2_with fail
          generalize hwz : World.alloc w4 _ = w5
          have g5 : w5.heap[w4.heap.size]? = some (.cells (setC S) 24 (0, 0)) := by rw [← hwz]; exact heap_new _ _
          have x5 : Ext G0 w3 w5 := by rw [← hwz]; exact x4.alloc _
          clear hwz x4
          generalize w4.heap.size = n5 at *
          refine (HQ.out _).mono ?_
          rintro e w6 ⟨rfl, b6⟩
          have x6 := Ext.of_below b6 G0
          replace g5 := ext_heap x6 g5 (fun x => x)
          replace x5 := x5.trans x6
          clear b6 x6
          have a8 := fun o => cells4 (heap_past (w := w6) g5 o)
          have a80 := fun o => (a8 o).1
          have a81 := fun o => (a8 o).2.1
          have a82 := fun o => (a8 o).2.2.1
          have a83 := fun o => (a8 o).2.2.2
          clear a8
          go_wp2
          go_roundw
          case rel => exact ⟨k + 1, by omega, by go_num, x5.alloc _⟩
          case measure => simp [intOf]; omega
        · have t12 : decide ((12 : Int) ≤ (k : Int)) = false := by simp; omega
          go_wp2_with fail
          clear d0
          refine (HF.out _).mono ?_
          rintro e w4 ⟨rfl, b4⟩
          have x4 := hx.trans (Ext.of_below b4 G0)
          clear b4
          go_wp2_with fail
          generalize hwz : World.alloc w4 _ = w5
          have g5 : w5.heap[w4.heap.size]? = some (.cells (setC S) 24 (0, 0)) := by rw [← hwz]; exact heap_new _ _
          have x5 : Ext G0 w3 w5 := by rw [← hwz]; exact x4.alloc _
          clear hwz x4
          generalize w4.heap.size = n5 at *
          refine (HQ.out _).mono ?_
          rintro e w6 ⟨rfl, b6⟩
          have x6 := Ext.of_below b6 G0
          replace g5 := ext_heap x6 g5 (fun x => x)
          replace x5 := x5.trans x6
          clear b6 x6
          have a8 := fun o => cells4 (heap_past (w := w6) g5 o)
          have a80 := fun o => (a8 o).1
          have a81 := fun o => (a8 o).2.1
          have a82 := fun o => (a8 o).2.2.1
          have a83 := fun o => (a8 o).2.2.2
          clear a8
          go_wp2
          go_roundw
          case rel => exact ⟨k + 1, by omega, by go_num, x5.alloc _⟩
          case measure => simp [intOf]; omega
      · have h12 : ¬ 12 ≤ k := fun h => by rw [hmk h] at hnone; cases hnone
        have t12 : decide ((12 : Int) ≤ (k : Int)) = false := by simp; omega
        have HF := Lib.hid (fun w => Named_any nm w)
        have HQ := Lib.hid (fun w => rNamed_any nm w)
        rw [hF] at HF
        rw [hQ] at HQ
        obtain ⟨S, hS⟩ : ∃ S, S = 0#256 := ⟨_, rfl⟩
        have es := equalIn_set S S
        rw [decide_eq_true rfl] at es
        have ez0 := equalIn_set S 0#256
        rw [decide_eq_true hS] at ez0
        have ez : ∀ w, (Op.equalIn 10000 24 (setV S) (.agg #[.int .u64 0, .int .u64 0, .int .u64 0, .int .u64 0])).run Tryd.prog w = .ok true w := ez0
        rw [← hS] at HF HQ
        clear ez0 hF hQ hS hnone hmk
        go_wp2_with fail
        clear d0
        refine (HF.out _).mono ?_
        rintro e w4 ⟨rfl, b4⟩
        have x4 := hx.trans (Ext.of_below b4 G0)
        clear b4
        go_wp2_with fail
        generalize hwz : World.alloc w4 _ = w5
        have g5 : w5.heap[w4.heap.size]? = some (.cells (setC S) 24 (0, 0)) := by rw [← hwz]; exact heap_new _ _
        have x5 : Ext G0 w3 w5 := by rw [← hwz]; exact x4.alloc _
        clear hwz x4
        generalize w4.heap.size = n5 at *
        refine (HQ.out _).mono ?_
        rintro e w6 ⟨rfl, b6⟩
        have x6 := Ext.of_below b6 G0
        replace g5 := ext_heap x6 g5 (fun x => x)
        replace x5 := x5.trans x6
        clear b6 x6
        have a8 := fun o => cells4 (heap_past (w := w6) g5 o)
        have a80 := fun o => (a8 o).1
        have a81 := fun o => (a8 o).2.1
        have a82 := fun o => (a8 o).2.2.1
        have a83 := fun o => (a8 o).2.2.2
        clear a8
        go_wp2
        go_roundw
        case rel => exact ⟨k + 1, by omega, by go_num, x5.alloc _⟩
        case measure => simp [intOf]; omega
    · obtain rfl : k = m + 12 := by omega
      have i1 : ¬ ((m : Int) + 12) < (m : Int) + 11 + 1 := by omega
      go_wp2
      go_ret
      exact ⟨rfl, (y3.trans hx).below⟩

end Go.Proofs.YtejialnbelleeaaDoor
