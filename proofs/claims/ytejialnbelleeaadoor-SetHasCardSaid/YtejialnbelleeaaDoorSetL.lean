/-
  slices.Equal, at bytes and at runs.
-/
import Derived.Test.YtejialnbelleeaaDoorSetK
namespace Go.Proofs.YtejialnbelleeaaDoor
open Go Go.RowKit

set_option maxHeartbeats 1000000 in
theorem equalB_any (la lb : List Nat) (va vb : Value) (w : World) (ha : BytesAt w va la) (hb : BytesAt w vb lb) :
    Calls Tryd.prog 39 #[va, vb] w fun e w' => e = .returned (.bool (decide (la = lb))) ∧ Below w.heap.size w w' := by
  obtain ⟨A, ca, rfl, ⟨_, hma⟩, hva⟩ := ha
  obtain ⟨B, cb, rfl, ⟨_, hmb⟩, hvb⟩ := hb
  by_cases hlen : la.length = lb.length
  · obtain ⟨n, hna⟩ : ∃ n, la.length = n := ⟨_, rfl⟩
    have hnb : lb.length = n := by omega
    obtain ⟨r, hr⟩ : ∃ r, r = decide (la = lb) := ⟨_, rfl⟩
    rw [← hr, hna, hnb]
    rw [hna] at hma
    clear hlen hmb
    go_enter Tryd.func39, Tryd.ntmps39
    go_wp2
    go_loopw [13] (fun i wr => ∃ k : Nat, k ≤ n ∧ i = .int .i64 (k : Int) ∧ la.take k = lb.take k ∧ Ext G0 w wr) (fun i _ => n - (intOf i).toNat)
    case atStart => exact ⟨0, by omega, rfl, rfl, Ext.refl _ _⟩
    case round =>
      obtain ⟨k, hk, rfl, heq, hx⟩ := hrel
      by_cases hlt : k < n
      · have hlta : k < la.length := by omega
        have hltb : k < lb.length := by omega
        rcases hva with rfl | ⟨b, off, rfl, hcell⟩
        · simp at hlta
        rcases hvb with rfl | ⟨b', off', rfl, hcell'⟩
        · simp at hltb
        have ca0 : ∀ wq, Ext G0 wr wq → wq.cell? ⟨b, off + k, none⟩ = some (.int .u8 (la[k] : Int)) := fun wq hq => bytes_cell hcell (hx.trans hq) hlta
        have cb0 : ∀ wq, Ext G0 wr wq → wq.cell? ⟨b', off' + k, none⟩ = some (.int .u8 (lb[k] : Int)) := fun wq hq => bytes_cell hcell' (hx.trans hq) hltb
        have HA := Lib.hid ca0
        have HB := Lib.hid cb0
        clear hcell hcell' ca0 cb0
        by_cases he : la[k] = lb[k]
        · have he' : (la[k] : Int) = (lb[k] : Int) := by rw [he]
          have hk1 : la.take (k + 1) = lb.take (k + 1) := by rw [List.take_succ_eq_append_getElem hlta, List.take_succ_eq_append_getElem hltb, heq, he]
          have HK := Lib.hid hk1
          clear hk1 he heq
          generalize la[k] = x at *
          generalize lb[k] = y at *
          clear hlta hltb hna hnb
          go_wp2
          apply region_phi (leaves := (Leaf.val _) :: (Leaf.val _) :: (Leaf.val _) :: (Leaf.val _) :: (Leaf.val _) :: (Leaf.val _) :: (Leaf.val _) :: (Leaf.val _) :: (Leaf.val _) :: ([] : List Leaf)) (k := 9) (b := #[0, 0, 3, 7, 0, 0, 48, 112, 255]) (ms := []) (E := Ext G0) mixed (by kernel_rfl) rfl (by kernel_rfl) rfl
          iterate 9
            apply owed_walk rfl
            · intro w1 hw hf
              have r0 := HA.out _ hw.ofDrew
              have r1 := HB.out _ hw.ofDrew
              go_wp2
              exact ⟨rfl, rfl, Ext.refl _ _⟩
            · simp
            · go_simp
              try rfl
          apply owed_end
          intro w1 hw _
          refine Tail.nil rfl ?_
          go_wp2
          go_roundw
          case rel => exact ⟨k + 1, by omega, by go_num, HK.out, hx.trans hw.ofDrew⟩
          case measure => simp [intOf]; omega
        · have he' : ¬ (la[k] : Int) = (lb[k] : Int) := by omega
          have hrf : r = false := by
            rw [hr]
            exact decide_eq_false fun e => he (by subst e; rfl)
          subst hrf
          clear hr he heq
          generalize la[k] = x at *
          generalize lb[k] = y at *
          clear hlta hltb hna hnb
          go_wp2
          apply region_phi (leaves := (Leaf.val _) :: (Leaf.val _) :: (Leaf.val _) :: (Leaf.val _) :: (Leaf.val _) :: (Leaf.val _) :: (Leaf.val _) :: (Leaf.val _) :: (Leaf.val _) :: ([] : List Leaf)) (k := 9) (b := #[0, 0, 3, 7, 0, 0, 48, 112, 255]) (ms := []) (E := Ext G0) mixed (by kernel_rfl) rfl (by kernel_rfl) rfl
          iterate 9
            apply owed_walk rfl
            · intro w1 hw hf
              have r0 := HA.out _ hw.ofDrew
              have r1 := HB.out _ hw.ofDrew
              go_wp2
              exact ⟨rfl, rfl, Ext.refl _ _⟩
            · simp
            · go_simp
              try rfl
          apply owed_end
          intro w1 hw _
          refine Tail.nil rfl ?_
          go_wp2
          go_ret
          exact ⟨rfl, (hx.trans hw.ofDrew).below⟩
      · obtain rfl : k = n := by omega
        have : la = lb := by
          rw [List.take_of_length_le (by omega), List.take_of_length_le (by omega)] at heq
          exact heq
        have hrt : r = true := by rw [hr]; exact decide_eq_true this
        subst hrt
        clear hr this heq hna hnb
        go_wp2
        go_ret
        exact ⟨rfl, hx.below⟩
  · have hlen' : ¬ (la.length : Int) = (lb.length : Int) := by omega
    rw [decide_eq_false (fun e => hlen (by rw [e]))]
    go_enter Tryd.func39, Tryd.ntmps39
    go_wp2
    go_ret
    exact ⟨rfl, Below.refl _ _⟩

theorem runs_cells {w wr : World} {l : List RunN} {b off k : Nat} (h : ∀ i x, l[i]? = some x → ∀ j y, (runL x)[j]? = some y → w.cell? ⟨b, off + i * 2 + j, none⟩ = some y) (hx : Ext G0 w wr) (hk : k < l.length) :
    wr.cell? ⟨b, off + k * 2, none⟩ = some (.int .u8 (l[k].1 : Int)) ∧ wr.cell? ⟨b, off + k * 2 + 1, none⟩ = some (.int .u8 (l[k].2 : Int)) := by
  have h := h k l[k] (by simp [hk])
  exact ⟨cell_ext hx (h 0 _ rfl), cell_ext hx (h 1 _ rfl)⟩

theorem equalIn_u8 (d : Nat) (x y : Int) (w : World) : (Op.equalIn (d + 1) 5 (.int .u8 x) (.int .u8 y)).run Tryd.prog w = .ok (x == y) w :=
  run_equalIn_int w d 5 .u8 .u8 x y Tryd.underlying5

theorem equalIn_run (x y : RunN) (w : World) : (Op.equalIn 10000 32 (.agg #[.int .u8 (x.1 : Int), .int .u8 (x.2 : Int)]) (.agg #[.int .u8 (y.1 : Int), .int .u8 (y.2 : Int)])).run Tryd.prog w = .ok (decide (x = y)) w := by
  obtain ⟨x1, x2⟩ := x
  obtain ⟨y1, y2⟩ := y
  rw [Op.equalIn]
  simp only [run_underlying Tryd.underlying32, Sem.run_bind, Result.andThen_ok]
  have p0 : ∀ (s t : Value), (part 5 #[s, t] 0).run Tryd.prog w = .ok s w := fun s t => by kernel_rfl
  have p1 : ∀ (s t : Value), (part 5 #[s, t] 1).run Tryd.prog w = .ok t w := fun s t => by kernel_rfl
  have hpg : Sem.run Tryd.prog program w = .ok Tryd.prog w := rfl
  have hst : (Tryd.prog).stoodInHeld 32 = false := by kernel_rfl
  simp only [hpg, Result.andThen_ok, hst, Bool.false_eq_true, if_false]
  by_cases h1 : x1 = y1
  · by_cases h2 : x2 = y2
    · simp [p0, p1, equalIn_u8, h1, h2]
    · have e : ((x2 : Int) == (y2 : Int)) = false := beq_eq_false_iff_ne.2 fun e => h2 (Int.ofNat_inj.1 e)
      simp [p0, p1, equalIn_u8, h1, h2, e]
  · have e : ((x1 : Int) == (y1 : Int)) = false := beq_eq_false_iff_ne.2 fun e => h1 (Int.ofNat_inj.1 e)
    simp [p0, equalIn_u8, e, h1]

set_option maxHeartbeats 1000000 in
theorem equalR_any (la lb : List RunN) (va vb : Value) (w : World) (ha : RunsAt w va la) (hb : RunsAt w vb lb) :
    Calls Tryd.prog 18 #[va, vb] w fun e w' => e = .returned (.bool (decide (la = lb))) ∧ Below w.heap.size w w' := by
  obtain ⟨A, ca, rfl, ⟨_, hma⟩, hva⟩ := ha
  obtain ⟨B, cb, rfl, ⟨_, hmb⟩, hvb⟩ := hb
  by_cases hlen : la.length = lb.length
  · obtain ⟨n, hna⟩ : ∃ n, la.length = n := ⟨_, rfl⟩
    have hnb : lb.length = n := by omega
    obtain ⟨r, hr⟩ : ∃ r, r = decide (la = lb) := ⟨_, rfl⟩
    rw [← hr, hna, hnb]
    rw [hna] at hma
    clear hlen hmb
    go_enter Tryd.func18, Tryd.ntmps18
    go_wp2
    go_loopw [13] (fun i wr => ∃ k : Nat, k ≤ n ∧ i = .int .i64 (k : Int) ∧ la.take k = lb.take k ∧ Ext G0 w wr) (fun i _ => n - (intOf i).toNat)
    case atStart => exact ⟨0, by omega, rfl, rfl, Ext.refl _ _⟩
    case round =>
      obtain ⟨k, hk, rfl, heq, hx⟩ := hrel
      by_cases hlt : k < n
      · have hlta : k < la.length := by omega
        have hltb : k < lb.length := by omega
        rcases hva with rfl | ⟨b, off, rfl, hcell⟩
        · simp at hlta
        rcases hvb with rfl | ⟨b', off', rfl, hcell'⟩
        · simp at hltb
        have ca0 : ∀ wq, Ext G0 wr wq → wq.cell? ⟨b, off + k * 2, none⟩ = some (.int .u8 (la[k].1 : Int)) ∧ wq.cell? ⟨b, off + k * 2 + 1, none⟩ = some (.int .u8 (la[k].2 : Int)) := fun wq hq => runs_cells hcell (hx.trans hq) hlta
        have cb0 : ∀ wq, Ext G0 wr wq → wq.cell? ⟨b', off' + k * 2, none⟩ = some (.int .u8 (lb[k].1 : Int)) ∧ wq.cell? ⟨b', off' + k * 2 + 1, none⟩ = some (.int .u8 (lb[k].2 : Int)) := fun wq hq => runs_cells hcell' (hx.trans hq) hltb
        have HA := Lib.hid ca0
        have HB := Lib.hid cb0
        clear hcell hcell' ca0 cb0
        by_cases he : la[k] = lb[k]
        · have he' := equalIn_run la[k] lb[k]
          rw [decide_eq_true he] at he'
          have hk1 : la.take (k + 1) = lb.take (k + 1) := by rw [List.take_succ_eq_append_getElem hlta, List.take_succ_eq_append_getElem hltb, heq, he]
          have HK := Lib.hid hk1
          clear hk1 he heq
          generalize la[k] = x at *
          generalize lb[k] = y at *
          obtain ⟨x1, x2⟩ := x
          obtain ⟨y1, y2⟩ := y
          simp only at HA HB he'
          clear hlta hltb hna hnb
          go_wp2
          apply region_phi (leaves := (Leaf.val _) :: (Leaf.val _) :: (Leaf.val _) :: (Leaf.val _) :: (Leaf.val _) :: (Leaf.val _) :: (Leaf.val _) :: (Leaf.val _) :: (Leaf.val _) :: ([] : List Leaf)) (k := 9) (b := #[0, 0, 3, 7, 0, 0, 48, 112, 255]) (ms := []) (E := Ext G0) mixed (by kernel_rfl) rfl (by kernel_rfl) rfl
          iterate 9
            apply owed_walk rfl
            · intro w1 hw hf
              obtain ⟨r0, r1⟩ := HA.out _ hw.ofDrew
              obtain ⟨r2, r3⟩ := HB.out _ hw.ofDrew
              go_wp2
              exact ⟨rfl, rfl, Ext.refl _ _⟩
            · simp
            · go_simp
              try rfl
          apply owed_end
          intro w1 hw _
          refine Tail.nil rfl ?_
          go_wp2
          go_roundw
          case rel => exact ⟨k + 1, by omega, by go_num, HK.out, hx.trans hw.ofDrew⟩
          case measure => simp [intOf]; omega
        · have he' := equalIn_run la[k] lb[k]
          rw [decide_eq_false he] at he'
          have hrf : r = false := by
            rw [hr]
            exact decide_eq_false fun e => he (by subst e; rfl)
          subst hrf
          clear hr he heq
          generalize la[k] = x at *
          generalize lb[k] = y at *
          obtain ⟨x1, x2⟩ := x
          obtain ⟨y1, y2⟩ := y
          simp only at HA HB he'
          clear hlta hltb hna hnb
          go_wp2
          apply region_phi (leaves := (Leaf.val _) :: (Leaf.val _) :: (Leaf.val _) :: (Leaf.val _) :: (Leaf.val _) :: (Leaf.val _) :: (Leaf.val _) :: (Leaf.val _) :: (Leaf.val _) :: ([] : List Leaf)) (k := 9) (b := #[0, 0, 3, 7, 0, 0, 48, 112, 255]) (ms := []) (E := Ext G0) mixed (by kernel_rfl) rfl (by kernel_rfl) rfl
          iterate 9
            apply owed_walk rfl
            · intro w1 hw hf
              obtain ⟨r0, r1⟩ := HA.out _ hw.ofDrew
              obtain ⟨r2, r3⟩ := HB.out _ hw.ofDrew
              go_wp2
              exact ⟨rfl, rfl, Ext.refl _ _⟩
            · simp
            · go_simp
              try rfl
          apply owed_end
          intro w1 hw _
          refine Tail.nil rfl ?_
          go_wp2
          go_ret
          exact ⟨rfl, (hx.trans hw.ofDrew).below⟩
      · obtain rfl : k = n := by omega
        have : la = lb := by
          rw [List.take_of_length_le (by omega), List.take_of_length_le (by omega)] at heq
          exact heq
        have hrt : r = true := by rw [hr]; exact decide_eq_true this
        subst hrt
        clear hr this heq hna hnb
        go_wp2
        go_ret
        exact ⟨rfl, hx.below⟩
  · have hlen' : ¬ (la.length : Int) = (lb.length : Int) := by omega
    rw [decide_eq_false (fun e => hlen (by rw [e]))]
    go_enter Tryd.func18, Tryd.ntmps18
    go_wp2
    go_ret
    exact ⟨rfl, Below.refl _ _⟩

end Go.Proofs.YtejialnbelleeaaDoor
