/-
  The reference for sets: FromBytes, Bytes.
-/
import Derived.Test.YtejialnbelleeaaDoorRefC
import Derived.Test.YtejialnbelleeaaDoorRefF
import Derived.Deep.LoopGhost
namespace Go.Proofs.YtejialnbelleeaaDoor
open Go Go.RowKit


set_option maxRecDepth 100000 in
set_option maxHeartbeats 4000000 in
theorem rfromBytes_any (l : List Nat) (v : Value) (w : World) (hv : BytesAt w v l) (hl : ∀ b ∈ l, b < 256) :
    Calls Tryd.prog 38 #[v] w fun e w' => e = .returned (setV (listS l)) ∧ Below w.heap.size w w' := by
  have hz := zero_bools
  obtain ⟨A, c, rfl, ⟨hc, hm⟩, hcells⟩ := hv
  replace hcells := Lib.hid hcells
  go_enter Tryd.func38, Tryd.ntmps38
  go_wp2
  generalize hwz : World.alloc (World.alloc w _) _ = wz
  have fR : wz.heap[w.heap.size]? = some (.cells (setC 0#256) 24 (0, 0)) := by rw [← hwz]; exact heap_two' w _ _
  have fB : wz.heap[w.heap.size + 1]? = some (.cells (boolsC fun _ => false) 85 (0, 0)) := by rw [← hwz]; exact heap_two w _ _
  have y0 : Ext G0 w wz := by rw [← hwz]; exact ((Ext.refl _ _).alloc _).alloc _
  clear hwz
  go_loopw [8] (fun i wr => ∃ k : Nat, k ≤ l.length ∧ i = .int .i64 (k : Int) ∧ wr.heap[w.heap.size]? = some (.cells (setC 0#256) 24 (0, 0)) ∧
      wr.heap[w.heap.size + 1]? = some (.cells (boolsC fun i => decide (i ∈ l.take k)) 85 (0, 0)) ∧ Ext G0 w wr) (fun i _ => l.length - (intOf i).toNat)
  case atStart =>
    refine ⟨0, Nat.zero_le _, rfl, fR, ?_, y0⟩
    rw [boolsC_congr (q := fun _ => false) (fun i _ => by simp)]
    exact fB
  case round =>
    obtain ⟨k, hk, rfl, gR, gB, hx⟩ := hrel
    clear fR fB y0
    by_cases hlt : k < l.length
    · have i1 : (k : Int) < (l.length : Int) := by omega
      rcases hcells.out with h | ⟨b, off, hA, hcell⟩
      · rw [h] at hlt; simp at hlt
      subst hA
      have e0 := bytes_cell hcell hx hlt
      have hb := hl _ (List.getElem_mem hlt)
      have hnew : boolsC (fun j => if j = l[k] then true else (fun i => decide (i ∈ l.take k)) j) = boolsC fun i => decide (i ∈ l.take (k + 1)) := boolsC_congr fun i _ => by
        rw [List.take_succ_eq_append_getElem hlt]
        by_cases e : i = l[k]
        · subst e; rw [if_pos rfl]; exact (decide_eq_true (List.mem_append.2 (.inr (List.mem_singleton.2 rfl)))).symm
        · rw [if_neg e]; exact decide_eq_decide.2 ⟨fun h => List.mem_append.2 (.inl h), fun h => (List.mem_append.1 h).resolve_right fun h => e (List.mem_singleton.1 h)⟩
      have HN := Lib.hid hnew
      clear hnew hcell
      generalize l[k] = x at *
      have c0 := (blk_cell gB x).trans (boolsC_get _ x hb)
      generalize decide (x ∈ l.take k) = b0 at *
      have z := blk_free gB
      have hlB := lt_of_block gB
      have i2 : (0 : Int) ≤ (x : Int) := by omega
      have i3 : (x : Int) < 256 := by omega
      go_wp2
      go_roundw
      case rel =>
        refine ⟨k + 1, by omega, by go_num, (Below.heap_setCell _ _ _ _ (by simp)).trans gR, ?_, hx.set (by simp) _⟩
        rw [blk_set gB, boolsC_set, HN.out]
      case measure => simp [intOf]; omega
    · obtain rfl : k = l.length := by omega
      rw [List.take_length] at gB
      go_wp2_with (first | (with_reducible refine wpList_load_row rfl 85 _ rfl (w.heap.size + 1) rfl _ _ _ _ gB Tryd.underlying85 rfl (info_bools _) ?_) | (go_at_call 58; refine (rof_any _ _).mono ?_; rintro e w2 ⟨rfl, hb2⟩; have gR2 := ext_heap (Ext.of_below hb2 G0) gR (fun x => x); obtain ⟨q0, q1, q2, q3⟩ := cells4 gR2; have zz := blk_free gR2; have hlR := lt_of_block gR2; have hx2 := hx.trans (Ext.of_below hb2 G0)))
      refine bodyPost_ret (v := setV (listS l)) (by simp [results, Tryd.results38, go_sem, listS, q0, q1, q2, q3]) rfl ⟨rfl, ?_⟩
      exact ((((hx2.set (by simp) _).set (by simp) _).set (by simp) _).set (by simp) _).below

theorem ownsRow_ext {w w' : World} {base : Nat} {e : TypeId} {size : Nat} {v : Value} {n : Nat} {xs : List Value} (h : w.ownsRow base e size v n xs) (hx : Ext G0 w w') : w'.ownsRow base e size v n xs :=
  ⟨h.1, h.2.imp id fun ⟨g, cap, cur, h1, h2, h3, h4⟩ => ⟨g, cap, cur, h1, h2, ext_heap hx h3 (fun x => x), h4⟩⟩
theorem ownsRow_mono {w : World} {base base' : Nat} {e : TypeId} {size : Nat} {v : Value} {n : Nat} {xs : List Value} (h : w.ownsRow base e size v n xs) (hb : base' ≤ base) : w.ownsRow base' e size v n xs :=
  ⟨h.1, h.2.imp id fun ⟨g, cap, cur, h1, h2, h3⟩ => ⟨g, cap, cur, h1, Nat.le_trans hb h2, h3⟩⟩
/-- The bytes of a set below k. -/
def preS (s : Bs) (k : Nat) : List Nat := (List.range k).filter fun i => s.getLsbD i
theorem preS_len (s : Bs) (k : Nat) : (preS s k).length ≤ k := by
  have := List.length_filter_le (fun i => s.getLsbD i) (List.range k)
  rw [List.length_range] at this
  exact this
theorem preS_succ (s : Bs) (k : Nat) : preS s (k + 1) = if s.getLsbD k then preS s k ++ [k] else preS s k := by
  unfold preS
  rw [List.range_succ, List.filter_append]
  cases h : s.getLsbD k <;> simp [h]

set_option maxRecDepth 100000 in
set_option maxHeartbeats 4000000 in
theorem rbytes_any (s : Bs) (w : World) :
    Calls Tryd.prog 42 #[setV s] w fun e w' => ∃ v, e = .returned v ∧ w'.ownsRow w.heap.size 5 1 v (preS s 256).length ((preS s 256).flatMap byteL) ∧ Below w.heap.size w w' := by
  obtain ⟨i0, hi, hz0, hz1, hz2⟩ := info_parts info_u8
  go_enter Tryd.func42, Tryd.ntmps42
  go_wp2
  generalize hwz : World.alloc w _ = wz
  have fS : wz.heap[w.heap.size]? = some (.cells (setC s) 24 (0, 0)) := by rw [← hwz]; exact heap_new _ _
  have y0 : Below w.heap.size w wz := by rw [← hwz]; exact (Below.refl _ _).alloc (Nat.le_refl _) _
  have hsz : w.heap.size + 1 = wz.heap.size := by rw [← hwz]; simp
  clear hwz
  go_loopw [3, 5] (fun v i wr => ∃ k : Nat, k ≤ 256 ∧ i = .int .i64 (k : Int) ∧ wr.heap[w.heap.size]? = some (.cells (setC s) 24 (0, 0)) ∧ wr.ownsRow (w.heap.size + 1) 5 1 v (preS s k).length ((preS s k).flatMap byteL) ∧ Below w.heap.size w wr) (fun _ i _ => 256 - (intOf i).toNat)
  case atStart => exact ⟨0, by omega, rfl, fS, World.ownsRow_nil _ _ _ _, y0⟩
  case round =>
    obtain ⟨k, hk, rfl, gS, hrow, hx⟩ := hrel
    clear fS y0
    have hlen := preS_len s k
    have hst := preS_succ s k
    by_cases hlt : k < 256
    · generalize preS s k = pre at *
      have HA := Lib.hid (rhas_any s k · hlt)
      have i1 : (k : Int) < 256 := by omega
      have i2 : (0 : Int) ≤ (k : Int) := by omega
      obtain ⟨q0, q1, q2, q3⟩ := cells4 gS
      have hszr := hx.size
      have hlS := lt_of_block gS
      replace hst := Lib.hid hst
      go_wp2_with fail
      refine (HA.out _).mono ?_
      rintro e w1 ⟨rfl, b1⟩
      have x1 := Ext.of_below b1 G0
      replace gS := ext_heap x1 gS (fun x => x)
      replace hrow := ownsRow_ext hrow x1
      replace hx := hx.trans (b1.mono hszr)
      have hsz1 := x1.size
      clear q0 q1 q2 q3 x1 b1
      cases hs : s.getLsbD k with
      | true =>
        rw [hs, if_pos rfl] at hst
        go_wp2_with (at_builtin; refine wpList_append_own _ rfl _ _ 34 rfl (w.heap.size + 1) 5 i0 (.int .u8 0) 1 1 Tryd.underlying34 hi hz0 hz1 hz2 rfl (by decide) _ _ _ rfl (hrow.alloc _) ⟨w1.heap.size, 0, none⟩ 1 1 [.int .u8 (k : Int)] rfl rfl (cell_one_new _ _ _) (by simp [Value.oneCell']) (by simp only [maxLen]; omega) (by omega) (by simp; omega) ?_; intro v' w2 hown hgrow _)
        go_roundw
        case rel =>
          have gS2 := (hgrow.block w.heap.size (by simp; omega) (fun e => by have := (hrow.lt _ e.symm).1; omega)).trans (heap_past gS _)
          have hx2 := (hx.alloc (by omega) _).grown hgrow (by simp; omega) (fun k hk => by have := (hrow.lt _ hk).1; omega)
          exact ⟨k + 1, by omega, by go_num, gS2, by rw [hst.out, List.length_append, List.flatMap_append]; exact hown, hx2⟩
        case measure => simp [intOf]; omega
      | false =>
        rw [hs, if_neg (by decide)] at hst
        go_wp2
        go_roundw
        case rel => exact ⟨k + 1, by omega, by go_num, gS, by rw [hst.out]; exact hrow, hx⟩
        case measure => simp [intOf]; omega
    · obtain rfl : k = 256 := by omega
      go_wp2
      go_ret
      exact ⟨_, rfl, ownsRow_mono hrow (by omega), hx⟩
end Go.Proofs.YtejialnbelleeaaDoor
