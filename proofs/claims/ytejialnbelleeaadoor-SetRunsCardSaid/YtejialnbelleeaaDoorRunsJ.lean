/-
  SetRuns is true: the walk.
-/
import Derived.Test.YtejialnbelleeaaDoorRefI
import Derived.Test.YtejialnbelleeaaDoorSetR
namespace Go.Proofs.YtejialnbelleeaaDoor
open Go Go.RowKit

theorem fromU_or : ∀ (l : List RunN) (lb : Nat) (acc s : Bs), fromU l lb acc = some s → s = l.foldl (fun a r => a ||| spanS r.1 r.2) acc
  | [], lb, acc, s, h => by cases h; rfl
  | r :: l, lb, acc, s, h => by
    unfold fromU at h
    split at h
    · cases h
    · exact fromU_or l _ _ s h
/-- The two agree whether there is such a set. -/
theorem from_both (l : List RunN) (hl : ∀ r ∈ l, r.1 < 256 ∧ r.2 < 256) : ∃ S er ok, fromV (fromS l) = .tuple #[setV S, .int .i64 er] ∧ fromQ l = .tuple #[setV S, .bool ok] ∧ ((er = 0 ∧ ok = true) ∨ (er = 111 ∧ ok = false)) := by
  unfold fromQ
  by_cases h : runsS (orS l) = l
  · have h2 := fromS_runs (orS l)
    rw [h] at h2
    exact ⟨orS l, 0, true, by rw [h2]; rfl, by rw [if_pos h, decide_eq_true h], .inl ⟨rfl, rfl⟩⟩
  · have h2 : fromS l = none := by
      cases hs : fromS l with
      | none => rfl
      | some s => exact absurd (by rw [show orS l = s from (fromU_or l 0 0#256 s hs).symm]; exact runs_fromS hs hl) h
    exact ⟨0#256, 111, false, by rw [h2]; rfl, by rw [if_neg h, decide_eq_false h], .inr ⟨rfl, rfl⟩⟩
theorem runs_at2 (s : Bs) (w : World) (htab : TabOk w) :
    Calls Tryd.prog 11 #[setV s] w fun e w' => ∃ v, e = .returned v ∧ RunsAt w' v (runsS s) ∧ Below w.heap.size w w' := by
  refine (runs_any s w htab).mono ?_
  rintro e w' ⟨v, rfl, ho, hb⟩
  exact ⟨v, rfl, SlAt.of_owns (fun _ _ => rfl) ho (by have := runsS_few s; omega), hb⟩
theorem rruns_at (s : Bs) (w : World) :
    Calls Tryd.prog 24 #[setV s] w fun e w' => ∃ v, e = .returned v ∧ RunsAt w' v (runsS s) ∧ Below w.heap.size w w' := by
  refine (rruns_any s w).mono ?_
  rintro e w' ⟨v, rfl, ho, hb⟩
  exact ⟨v, rfl, SlAt.of_owns (fun _ _ => rfl) ho (by have := runsS_few s; omega), hb⟩

set_option maxRecDepth 100000 in
set_option maxHeartbeats 16000000 in
theorem runs_walk (l : List Bs) (x0 : List RunN) (A B : Option Addr) (nl cl n c : Nat) (w : World) (htab : TabOk w) (hl : SetsAt w (.slice A nl cl) l) (hx0 : RunsAt w (.slice B n c) x0) (hlt0 : ∀ r ∈ x0, r.1 < 256 ∧ r.2 < 256) :
    Calls Tryd.prog 6 #[.slice A nl cl, .slice B n c] w fun e w' => e = .returned (.bool true) ∧ Below w.heap.size w w' := by
  obtain ⟨hn, hnc, hnm⟩ := hx0.length
  have hslice : ∃ m, RunsAt w (.slice B m c) (x0.take 130) ∧ min (n : Int) 130 = (m : Int) ∧ m ≤ n ∧ (x0.take 130).length = m := by
    have := hx0.take 130
    by_cases h : n ≤ 130
    · rw [Nat.min_eq_left h] at this
      exact ⟨n, this, by omega, Nat.le_refl _, by rw [List.length_take]; omega⟩
    · rw [Nat.min_eq_right (by omega)] at this
      exact ⟨130, this, by omega, by omega, by rw [List.length_take]; omega⟩
  obtain ⟨m, hsl, hmin, hmn, hxm⟩ := hslice
  have hltx : ∀ r ∈ x0.take 130, r.1 < 256 ∧ r.2 < 256 := fun r hr => hlt0 r (List.mem_of_mem_take hr)
  have hm130 : m ≤ 130 := by omega
  clear hx0 hn hlt0
  generalize x0.take 130 = x at *
  obtain ⟨S, er, ok, hF, hQ, hE⟩ := from_both x hltx
  have HF := Lib.hid (fun v w hv => fromRuns_any x v w hv hltx)
  have HQ := Lib.hid (fun v w hv => rfromRuns_any x v w hv hltx)
  rw [hF] at HF
  rw [hQ] at HQ
  have es := equalIn_set S S
  rw [decide_eq_true rfl] at es
  replace hsl := Lib.hid hsl
  obtain ⟨A', c', he, ⟨hlc, hlm⟩, hcells⟩ := hl
  injection he with e1 e2 e3
  subst e1 e2 e3
  replace hcells := Lib.hid hcells
  have hxm' := Lib.hid hxm
  clear hF hQ hltx
  rcases hE with ⟨rfl, rfl⟩ | ⟨rfl, rfl⟩
  all_goals
    go_enter Tryd.func6, Tryd.ntmps6
    go_wp2_with fail
    refine (wakes_any _ htab).mono ?_
    rintro e w1 ⟨rfl, b1⟩
    have y1 := Ext.of_below b1 G0
    clear b1
    go_wp2_with fail
    go_loopw [16] (fun i wr => ∃ k : Nat, k ≤ l.length ∧ i = .int .i64 (k : Int) ∧ Ext G0 w wr) (fun i _ => l.length - (intOf i).toNat)
    case atStart => exact ⟨0, Nat.zero_le _, rfl, y1⟩
    case round =>
      obtain ⟨k, hk, rfl, hx⟩ := hrel
      clear y1
      by_cases hlt : k < l.length
      · have i1 : (k : Int) < (l.length : Int) := by omega
        rcases hcells.out with h | ⟨b, off, hA, hcell⟩
        · rw [h] at hlt; simp at hlt
        subst hA
        obtain ⟨d0, d1, d2, d3⟩ := sets_cells hcell hx hlt
        clear hcell
        generalize l[k] = z at *
        by_cases h8 : k < 8
        · have t1 : decide ((k : Int) < 8) = true := by simp; omega
          go_wp2_with fail
          clear d0 d1 d2 d3
          generalize hwz : World.alloc wr _ = wz
          have gX : wz.heap[wr.heap.size]? = some (.cells (setC z) 24 (0, 0)) := by rw [← hwz]; exact heap_new _ _
          have hxz : Ext G0 w wz := by rw [← hwz]; exact hx.alloc _
          clear hwz
          generalize wr.heap.size = nX at *
          apply region_phi (leaves := (Leaf.val _) :: (Leaf.val _) :: (Leaf.val _) :: (Leaf.val _) :: (Leaf.ref false false (fun v w => RunsAt w v (runsS z))) :: (Leaf.val _) :: (Leaf.ref false false (fun v w => RunsAt w v (runsS z))) :: (Leaf.val _) :: (Leaf.val _) :: (Leaf.val _) :: ([] : List Leaf)) (k := 10) (b := #[0, 1, 3, 7, 15, 7, 63, 127, 255, 511]) (ms := []) (E := Ext G0) mixed (by kernel_rfl) rfl (by kernel_rfl) rfl
          apply owed_walk rfl
          · intro w1 hw hf
            go_wp2
            exact ⟨rfl, rfl, Ext.refl _ _⟩
          · simp
          · go_simp
            try rfl
          apply owed_walk rfl
          · intro w1 hw hf
            go_wp2
            exact ⟨rfl, rfl, Ext.refl _ _⟩
          · simp
          · go_simp
            try rfl
          apply owed_walk rfl
          · intro w1 hw hf
            go_wp2
            exact ⟨rfl, rfl, Ext.refl _ _⟩
          · simp
          · go_simp
            try rfl
          apply owed_walk rfl
          · intro w1 hw hf
            obtain ⟨q0, q1, q2, q3⟩ := cells4 (ext_heapD hw gX (fun x => x))
            go_wp2
            exact ⟨rfl, rfl, Ext.refl _ _⟩
          · simp
          · go_simp
            try rfl
          apply owed_walk_ref rfl
          · exact fun v w w' h hx => SlAt.ext h hx
          · intro w1 hw hf
            go_wp2_with (go_at_call 11; have htb := (htab.ext hxz).ext hw.ofDrew; refine (runs_at2 z _ htb).mono ?_; rintro e w2 ⟨v, rfl, hv, hx2⟩)
            exact ⟨rfl, hv, Ext.of_below hx2 _⟩
          · simp
          · intro v
            go_simp
            try rfl
          intro v4
          apply owed_walk rfl
          · intro w1 hw hf
            obtain ⟨q0, q1, q2, q3⟩ := cells4 (ext_heapD hw gX (fun x => x))
            go_wp2
            exact ⟨rfl, rfl, Ext.refl _ _⟩
          · simp
          · go_simp
            try rfl
          apply owed_walk_ref rfl
          · exact fun v w w' h hx => SlAt.ext h hx
          · intro w1 hw hf
            go_wp2_with (go_at_call 24; refine (rruns_at z _).mono ?_; rintro e w2 ⟨v, rfl, hv, hx2⟩)
            exact ⟨rfl, hv, Ext.of_below hx2 _⟩
          · simp
          · intro v
            go_simp
            try rfl
          intro v6
          apply owed_walk rfl
          · intro w1 hw hf
            have hv4 := hf _ (List.Mem.tail _ (List.Mem.head _)) (by dsimp only; decide)
            have hv6 := hf _ (List.Mem.head _) (by dsimp only; decide)
            go_wp2_with (go_at_call 18; refine (equalR_same (runsS z) _ _ _ hv4 hv6).mono ?_; rintro e w2 ⟨rfl, hx2⟩)
            exact ⟨rfl, rfl, Ext.of_below hx2 _⟩
          · simp
          · go_simp
            try rfl
          apply owed_walk rfl
          · intro w1 hw hf
            go_wp2
            exact ⟨rfl, rfl, Ext.refl _ _⟩
          · simp
          · go_simp
            try rfl
          apply owed_walk rfl
          · intro w1 hw hf
            go_wp2
            exact ⟨rfl, rfl, Ext.refl _ _⟩
          · simp
          · go_simp
            try rfl
          apply owed_end
          intro w5 hw _
          refine Tail.nil rfl ?_
          go_wp2
          go_roundw
          case rel => exact ⟨k + 1, by omega, by go_num, hxz.trans hw.ofDrew⟩
          case measure => simp [intOf]; omega
        · have t1 : decide ((k : Int) < 8) = false := by simp; omega
          go_wp2_with fail
          clear d0 d1 d2 d3
          generalize hwz : World.alloc wr _ = wz
          have gX : wz.heap[wr.heap.size]? = some (.cells (setC z) 24 (0, 0)) := by rw [← hwz]; exact heap_new _ _
          have hxz : Ext G0 w wz := by rw [← hwz]; exact hx.alloc _
          clear hwz
          go_region
          go_wp2
          go_roundw
          case rel => exact ⟨k + 1, by omega, by go_num, hxz.drew⟩
          case measure => simp [intOf]; omega
      · obtain rfl : k = l.length := by omega
        go_wp2_with fail
        refine (cloneRun_any x _ _ (hsl.out.ext hx) (by omega)).mono ?_
        rintro e w2 ⟨v', rfl, hown, b2⟩
        have y2 := hx.trans (Ext.of_below b2 G0)
        have hv := SlAt.of_owns (sz := 2) (enc := runL) (fun _ _ => rfl) hown (by omega)
        clear b2 hown hx
        have hv0 := Lib.hid hv
        obtain ⟨A', c', rfl, ⟨hlc', hlm'⟩, -⟩ := hv
        rw [hxm'.out] at hv0
        rw [hxm]
        go_wp2_with fail
        refine (HF.out _ _ hv0.out).mono ?_
        rintro e w3 ⟨rfl, b3⟩
        have x3 := Ext.of_below b3 G0
        clear b3
        go_wp2_with fail
        generalize hwz : World.alloc w3 _ = w4
        have g8 : w4.heap[w3.heap.size]? = some (.cells (setC S) 24 (0, 0)) := by rw [← hwz]; exact heap_new _ _
        have x4 : Ext G0 w2 w4 := by rw [← hwz]; exact x3.alloc _
        clear hwz x3
        generalize w3.heap.size = n8 at *
        refine (HQ.out _ _ (hv0.out.ext x4)).mono ?_
        rintro e w5 ⟨rfl, b5⟩
        have x5 := Ext.of_below b5 G0
        replace g8 := ext_heap x5 g8 (fun x => x)
        replace x5 := x4.trans x5
        clear b5 x4
        have a8 := fun o => cells4 (heap_past (w := w5) g8 o)
        have a80 := fun o => (a8 o).1
        have a81 := fun o => (a8 o).2.1
        have a82 := fun o => (a8 o).2.2.1
        have a83 := fun o => (a8 o).2.2.2
        have hmc : m ≤ c := by omega
        clear a8
        go_wp2_with fail
        clear a80 a81 a82 a83
        refine (equalR_same x _ _ _ (hv0.out.ext (x5.alloc _)) (hsl.out.ext ((y2.trans x5).alloc _))).mono ?_
        rintro e w6 ⟨rfl, b6⟩
        go_wp2
        go_ret
        exact ⟨rfl, (((y2.trans x5).alloc _).trans (Ext.of_below b6 G0)).below⟩

end Go.Proofs.YtejialnbelleeaaDoor
